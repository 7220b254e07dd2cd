/- Parsers: the laws Checks and Parses, walked. No condition. -/
import Derived.Test.YtonnlcjkgpahoaaPqK
import Derived.Test.YtonnlcjkgpahoaaPqB
namespace Go.Proofs.Ytonnlcjkgpahoaa
open Go.RowKit

set_option maxRecDepth 8000 in
set_option maxHeartbeats 2000000 in
theorem parserChecks_walk (v0 : Value) (W : World) {b0 : Nat} {r0 : Reach} {H : Type} {enc : TypeId × Value → H} {d0 : DataW H} {p0 : List MemPlace}
    (ok0 : Value.okWide Try.prog W r0 b0 31 v0) (h0 : DataW.Trod enc Try.prog W 0 (fun _ => true) true 31 v0 d0 p0) :
    Calls Try.prog 6 #[v0] W (Rets W (.bool true)) := by
  obtain ⟨p, P, ss, rfl, hq⟩ := qprog_take ok0 h0
  clear ok0 h0 d0
  obtain ⟨s, a1, a2, a3, a4, a5, a6, a7, a8, m1, m2, n3, m3, n4, m4, n5, m5, n6, m6, n7, m7, m8, hf⟩ := hq.1.form
  obtain ⟨rfl, hhs, hmd, _, hl1, hl2, _⟩ := hf
  have hss := hq.2
  dsimp only at hss
  obtain ⟨a6', m6', e6, hl6, hc6⟩ := hss.slice
  simp only [Value.slice.injEq] at e6
  obtain ⟨rfl, rfl, rfl⟩ := e6
  unfold maxLen at hc6
  obtain ⟨ob, hob⟩ : ∃ z, z = Ps.okQ P ss := ⟨_, rfl⟩
  have HTL : Hid (∀ w, Ext W w → Calls Try.prog 21 #[.agg #[.string s, .slice a1 P.hs.length m1, .slice a2 P.md.length m2, .slice a3 n3 m3, .slice a4 n4 m4, .slice a5 n5 m5, .slice a6 ss.length m6, .slice a7 n7 m7, .slice a8 P.dp.length m8]] w (Rets w (.bool (!ob)))) := Lib.hid (fun w hx => by have h := qtoolarge_any (hq.ext hx); rw [← hob] at h; exact h)
  obtain ⟨⟨c1, c2, c3⟩, hR⟩ : ∃ z, z = Ps.chk P ss := ⟨_, rfl⟩
  have HC1 : Hid (∀ w, Ext W w → Calls Try.prog 23 #[.agg #[.string s, .slice a1 P.hs.length m1, .slice a2 P.md.length m2, .slice a3 n3 m3, .slice a4 n4 m4, .slice a5 n5 m5, .slice a6 ss.length m6, .slice a7 n7 m7, .slice a8 P.dp.length m8]] w (Rets w (.tuple #[.int .i64 c1, .int .i64 c2, .int .i64 c3]))) := Lib.hid (fun w hx => by have h := pcheck_any (hq.ext hx); rw [← hR] at h; exact h)
  have HC2 : Hid (∀ w, Ext W w → Calls Try.prog 24 #[.agg #[.string s, .slice a1 P.hs.length m1, .slice a2 P.md.length m2, .slice a3 n3 m3, .slice a4 n4 m4, .slice a5 n5 m5, .slice a6 ss.length m6, .slice a7 n7 m7, .slice a8 P.dp.length m8]] w (Rets w (.tuple #[.int .i64 c1, .int .i64 c2, .int .i64 c3]))) := Lib.hid (fun w hx => by have h := rcheck_any (hq.ext hx); rw [← hR] at h; exact h)
  have bx := alloc_heap W (.cells #[.string s, .slice a1 P.hs.length m1, .slice a2 P.md.length m2, .slice a3 n3 m3, .slice a4 n4 m4, .slice a5 n5 m5, .slice a6 ss.length m6, .slice a7 n7 m7, .slice a8 P.dp.length m8] 31)
  have pc0 := alw (cell_of (o := 0) bx)
  have pc1 := alw (cell_of (o := 1) bx)
  have pc2 := alw (cell_of (o := 2) bx)
  have pc3 := alw (cell_of (o := 3) bx)
  have pc4 := alw (cell_of (o := 4) bx)
  have pc5 := alw (cell_of (o := 5) bx)
  have pc6 := alw (cell_of (o := 6) bx)
  have pc7 := alw (cell_of (o := 7) bx)
  have pc8 := alw (cell_of (o := 8) bx)
  clear bx
  clear hq hhs hmd hss hob hR
  dsimp only [Pg.PV.val]
  go_enter Try.func6, Try.ntmps6
  go_wp2_with fail
  refine (HTL.out _ grows).mono ?_
  rintro e w1 ⟨rfl, x1⟩
  have s1 := Step.mk x1
  clear x1
  cases ob with
  | false =>
    go_wp2_with fail
    refine (pworks_any _).mono ?_
    rintro e wk ⟨rfl, xwk⟩
    have swk := Step.mk xwk
    clear xwk
    go_wp2_with fail
    go_ret
    exact ⟨rfl, grows⟩
  | true =>
    go_wp2_with fail
    refine (HC1.out _ grows).mono ?_
    rintro e w2 ⟨rfl, xw2⟩
    have sw2 := Step.mk xw2
    clear xw2
    go_wp2_with fail
    refine (HC2.out _ grows).mono ?_
    rintro e w3 ⟨rfl, xw3⟩
    have sw3 := Step.mk xw3
    clear xw3
    go_wp2_with fail
    refine (pworks_any _).mono ?_
    rintro e wk ⟨rfl, xwk⟩
    have swk := Step.mk xwk
    clear xwk
    go_wp2_with fail
    go_ret
    exact ⟨rfl, grows⟩
set_option maxRecDepth 8000 in
set_option maxHeartbeats 8000000 in
theorem parserParses_walk (v0 : Value) (da : Option Addr) (n0 dc : Nat) (zs : List Int) (W : World) {b0 : Nat} {rr : Reach} {H : Type} {enc : TypeId × Value → H} {d0 : DataW H} {p0 : List MemPlace}
    (ok0 : Value.okWide Try.prog W rr b0 31 v0) (h0 : DataW.Trod enc Try.prog W 0 (fun _ => true) true 31 v0 d0 p0) (r0 : IsRow .u8 W da n0 dc zs) :
    Calls Try.prog 7 #[v0, .slice da n0 dc] W (Rets W (.bool true)) := by
  obtain ⟨l, rfl, hl0, hsrc, bl⟩ := row_take r0
  have hby : Io.Bytes l := wf_any bl
  unfold maxLen at hl0
  clear r0 bl
  obtain ⟨p, P, ss, rfl, hq⟩ := qprog_take ok0 h0
  clear ok0 h0 d0
  obtain ⟨s, a1, a2, a3, a4, a5, a6, a7, a8, m1, m2, n3, m3, n4, m4, n5, m5, n6, m6, n7, m7, m8, hf⟩ := hq.1.form
  obtain ⟨rfl, hhs, hmd, _, hl1, hl2, _⟩ := hf
  have hss := hq.2
  dsimp only at hss
  obtain ⟨a6', m6', e6, hl6, hc6⟩ := hss.slice
  simp only [Value.slice.injEq] at e6
  obtain ⟨rfl, rfl, rfl⟩ := e6
  unfold maxLen at hc6
  obtain ⟨ob, hob⟩ : ∃ z, z = Ps.okQ P ss := ⟨_, rfl⟩
  have HTL : Hid (∀ w, Ext W w → Calls Try.prog 21 #[.agg #[.string s, .slice a1 P.hs.length m1, .slice a2 P.md.length m2, .slice a3 n3 m3, .slice a4 n4 m4, .slice a5 n5 m5, .slice a6 ss.length m6, .slice a7 n7 m7, .slice a8 P.dp.length m8]] w (Rets w (.bool (!ob)))) := Lib.hid (fun w hx => by have h := qtoolarge_any (hq.ext hx); rw [← hob] at h; exact h)
  have bx := alloc_heap W (.cells #[.string s, .slice a1 P.hs.length m1, .slice a2 P.md.length m2, .slice a3 n3 m3, .slice a4 n4 m4, .slice a5 n5 m5, .slice a6 ss.length m6, .slice a7 n7 m7, .slice a8 P.dp.length m8] 31)
  have pc0 := alw (cell_of (o := 0) bx)
  have pc1 := alw (cell_of (o := 1) bx)
  have pc2 := alw (cell_of (o := 2) bx)
  have pc3 := alw (cell_of (o := 3) bx)
  have pc4 := alw (cell_of (o := 4) bx)
  have pc5 := alw (cell_of (o := 5) bx)
  have pc6 := alw (cell_of (o := 6) bx)
  have pc7 := alw (cell_of (o := 7) bx)
  have pc8 := alw (cell_of (o := 8) bx)
  clear bx
  cases ob with
  | false =>
    clear hq hhs hmd hss hob hsrc hby
    dsimp only [Pg.PV.val]
    go_enter Try.func7, Try.ntmps7
    go_wp2_with fail
    refine (HTL.out _ grows).mono ?_
    rintro e w1 ⟨rfl, xw1⟩
    have sw1 := Step.mk xw1
    clear xw1
    go_wp2_with fail
    refine (pworks_any _).mono ?_
    rintro e wk ⟨rfl, xwk⟩
    have swk := Step.mk xwk
    clear xwk
    go_wp2_with fail
    go_ret
    exact ⟨rfl, grows⟩
  | true =>
    have hcp := Ps.okQ_cap hob.symm
    by_cases hl6 : l.length ≤ 600
    · have g1 : decide ((600 : Int) < (l.length : Int)) = false := decide_eq_false (by omega)
      obtain ⟨⟨RE, RL, RF⟩, hR⟩ : ∃ z, z = Ps.parse P ss l := ⟨_, rfl⟩
      have HP1 : Hid (∀ w, Ext W w → Calls Try.prog 25 #[.agg #[.string s, .slice a1 P.hs.length m1, .slice a2 P.md.length m2, .slice a3 n3 m3, .slice a4 n4 m4, .slice a5 n5 m5, .slice a6 ss.length m6, .slice a7 n7 m7, .slice a8 P.dp.length m8], .slice da l.length dc] w (ParseP w (RE, RL, RF))) := Lib.hid (fun w hx  => by have h := pparse_any (hq.ext hx) hcp (hsrc.ext hx) hby (by omega); rw [← hR] at h; exact h)
      have HP2 : Hid (∀ w, Ext W w → Calls Try.prog 26 #[.agg #[.string s, .slice a1 P.hs.length m1, .slice a2 P.md.length m2, .slice a3 n3 m3, .slice a4 n4 m4, .slice a5 n5 m5, .slice a6 ss.length m6, .slice a7 n7 m7, .slice a8 P.dp.length m8], .slice da l.length dc] w (ParseP w (RE, RL, RF))) := Lib.hid (fun w hx  => by have h := rparse_any (hq.ext hx) hcp (hsrc.ext hx) hby (by omega); rw [← hR] at h; exact h)
      have HS1 : Hid (∀ w, Ext W w → Calls Try.prog 29 #[.agg #[.string s, .slice a1 P.hs.length m1, .slice a2 P.md.length m2, .slice a3 n3 m3, .slice a4 n4 m4, .slice a5 n5 m5, .slice a6 ss.length m6, .slice a7 n7 m7, .slice a8 P.dp.length m8], .slice da l.length dc] w (StatesP w (RE, RL, RF))) := Lib.hid (fun w hx  => by have h := pstates_any (hq.ext hx) hcp (hsrc.ext hx) hby (by omega); rw [← hR] at h; exact h)
      have HS2 : Hid (∀ w, Ext W w → Calls Try.prog 30 #[.agg #[.string s, .slice a1 P.hs.length m1, .slice a2 P.md.length m2, .slice a3 n3 m3, .slice a4 n4 m4, .slice a5 n5 m5, .slice a6 ss.length m6, .slice a7 n7 m7, .slice a8 P.dp.length m8], .slice da l.length dc] w (StatesP w (RE, RL, RF))) := Lib.hid (fun w hx  => by have h := rstates_any (hq.ext hx) hcp (hsrc.ext hx) hby (by omega); rw [← hR] at h; exact h)
      have HEI : Hid (∀ w (u v : Value), Ns .i64 w u RL → Ns .i64 w v RL → Calls Try.prog 28 #[u, v] w (Rets w (.bool true))) := Lib.hid (fun w u v hu hv => by have h := eqints_any hu hv; rw [decide_eq_true rfl] at h; exact h)
      have HEQ : Hid (∀ w (u v : Pg.EV), Pg.IsE w u RE → Pg.IsE w v RE → Calls Try.prog 27 #[u.val, v.val] w (Rets w (.bool true))) := Lib.hid (fun w u v hu hv => by have h := refeequal_any hu hv; rw [En.eq_self] at h; exact h)
      clear hq hhs hmd hss hob hsrc hby hR hcp
      dsimp only [Pg.PV.val]
      go_enter Try.func7, Try.ntmps7
      go_wp2_with fail
      refine (HTL.out _ grows).mono ?_
      rintro e w1 ⟨rfl, xw1⟩
      have sw1 := Step.mk xw1
      clear xw1
      go_wp2_with fail
      refine (HP1.out _ grows).mono ?_
      rintro e w2 ⟨ev2, vs2, rfl, x2, o2⟩
      dsimp only at o2
      have I2 := Lib.hid o2.isE
      obtain ⟨y20, y21, y22, y23, z20, z21, z22, z23, hg⟩ := o2.isE.form
      obtain ⟨rfl, _, _, _, _, _, _, _, _⟩ := hg
      dsimp only [Pg.EV.val]
      have s2 := Step.mk x2
      have be := alloc_heap w2 (.cells #[.slice y20 RE.va.length z20, .slice y21 RE.fi.length z21, .slice y22 RE.me.length z22, .slice y23 RE.pl.length z23] 37)
      have qc20 := alw (cell_of (o := 0) be)
      have qc21 := alw (cell_of (o := 1) be)
      have qc22 := alw (cell_of (o := 2) be)
      have qc23 := alw (cell_of (o := 3) be)
      clear be x2 o2
      go_wp2_with fail
      refine (HP2.out _ grows).mono ?_
      rintro e w3 ⟨ev3, vs3, rfl, x3, o3⟩
      dsimp only at o3
      have I3 := Lib.hid o3.isE
      obtain ⟨y30, y31, y32, y33, z30, z31, z32, z33, hg⟩ := o3.isE.form
      obtain ⟨rfl, _, _, _, _, _, _, _, _⟩ := hg
      dsimp only [Pg.EV.val]
      have s3 := Step.mk x3
      have be := alloc_heap w3 (.cells #[.slice y30 RE.va.length z30, .slice y31 RE.fi.length z31, .slice y32 RE.me.length z32, .slice y33 RE.pl.length z33] 37)
      have qc30 := alw (cell_of (o := 0) be)
      have qc31 := alw (cell_of (o := 1) be)
      have qc32 := alw (cell_of (o := 2) be)
      have qc33 := alw (cell_of (o := 3) be)
      clear be x3 o3
      go_wp2_with fail
      refine Rel.region (W := (w3.alloc (.cells #[.slice y30 RE.va.length z30, .slice y31 RE.fi.length z31, .slice y32 RE.me.length z32, .slice y33 RE.pl.length z33] 37))) (Rel.tab [(2, fun v _ => v = .bool true), (11, fun v w => ∃ oa c, v = .slice oa RL.length c ∧ Ns .i64 w v RL), (14, fun v w => ∃ oa c, v = .slice oa RL.length c ∧ Ns .i64 w v RL), (15, fun v _ => v = .bool true), (18, fun v _ => v = .bool true)]) (Rel.tab_lasts (by intro p hp v w w' hr hx; simp only [List.mem_cons, List.not_mem_nil, or_false] at hp; rcases hp with rfl | rfl | rfl | rfl | rfl; (· exact hr); (· obtain ⟨oa, c, e1, e2⟩ := hr; exact ⟨oa, c, e1, e2.ext hx⟩); (· obtain ⟨oa, c, e1, e2⟩ := hr; exact ⟨oa, c, e1, e2.ext hx⟩); (· exact hr); (· exact hr))) (by kernel_rfl) (by kernel_rfl) (Ext.refl _) ?_
      refine Rel.chunk 2 rfl rfl rfl ?_
      simp only [List.take_succ_cons, List.take_zero, List.drop_succ_cons, List.drop_zero, Nat.reduceAdd]
      repeat (go_big_quiet_step (fail))
      refine wpQuiet_nil ?_
      refine Rel.callG (fun v _ => v = .bool true) rfl rfl rfl Try.func27 (by nofun) (by decide) #[.agg #[.slice y20 RE.va.length z20, .slice y21 RE.fi.length z21, .slice y22 RE.me.length z22, .slice y23 RE.pl.length z23], .agg #[.slice y30 RE.va.length z30, .slice y31 RE.fi.length z31, .slice y32 RE.me.length z32, .slice y33 RE.pl.length z33]] rfl (fun w hx _ => by refine (HEQ.out w ⟨.slice y20 RE.va.length z20, .slice y21 RE.fi.length z21, .slice y22 RE.me.length z22, .slice y23 RE.pl.length z23⟩ ⟨.slice y30 RE.va.length z30, .slice y31 RE.fi.length z31, .slice y32 RE.me.length z32, .slice y33 RE.pl.length z33⟩ (I2.out.ext ((grows (a := w2) (b := (w3.alloc (.cells #[.slice y30 RE.va.length z30, .slice y31 RE.fi.length z31, .slice y32 RE.me.length z32, .slice y33 RE.pl.length z33] 37)))).trans hx)) (I3.out.ext ((grows (a := w3) (b := (w3.alloc (.cells #[.slice y30 RE.va.length z30, .slice y31 RE.fi.length z31, .slice y32 RE.me.length z32, .slice y33 RE.pl.length z33] 37)))).trans hx))).mono ?_; rintro e w9 ⟨he, hx9⟩; exact ⟨_, he, hx9, rfl⟩) ?_
      intro v2 wq2 _ _ r2
      subst r2
      simp only [Act.put, List.setIfInBounds_toArray, List.set_cons_succ, List.set_cons_zero]
      refine Rel.chunk 8 rfl rfl rfl ?_
      simp only [List.take_succ_cons, List.take_zero, List.drop_succ_cons, List.drop_zero, Nat.reduceAdd]
      repeat (go_big_quiet_step (fail))
      refine wpQuiet_nil ?_
      refine Rel.callG (fun v w => ∃ oa c, v = .slice oa RL.length c ∧ Ns .i64 w v RL) rfl rfl rfl Try.func29 (by nofun) (by decide) #[.agg #[.string s, .slice a1 P.hs.length m1, .slice a2 P.md.length m2, .slice a3 n3 m3, .slice a4 n4 m4, .slice a5 n5 m5, .slice a6 ss.length m6, .slice a7 n7 m7, .slice a8 P.dp.length m8], .slice da l.length dc] rfl (fun w hx _ => by refine (HS1.out w ((grows (a := W) (b := (w3.alloc (.cells #[.slice y30 RE.va.length z30, .slice y31 RE.fi.length z31, .slice y32 RE.me.length z32, .slice y33 RE.pl.length z33] 37)))).trans hx)).mono ?_; rintro e w9 ⟨sv, he, hx9, ho9⟩; obtain ⟨oa9, c9, rfl⟩ := own_slice ho9; exact ⟨_, he, hx9, oa9, c9, rfl, own_src ho9 (i64s_one _), own_max ho9⟩) ?_
      intro v11 wq11 _ _ r11
      obtain ⟨oa11, c11, rfl, _⟩ := r11
      simp only [Act.put, List.setIfInBounds_toArray, List.set_cons_succ, List.set_cons_zero]
      refine Rel.chunk 2 rfl rfl rfl ?_
      simp only [List.take_succ_cons, List.take_zero, List.drop_succ_cons, List.drop_zero, Nat.reduceAdd]
      repeat (go_big_quiet_step (fail))
      refine wpQuiet_nil ?_
      refine Rel.callG (fun v w => ∃ oa c, v = .slice oa RL.length c ∧ Ns .i64 w v RL) rfl rfl rfl Try.func30 (by nofun) (by decide) #[.agg #[.string s, .slice a1 P.hs.length m1, .slice a2 P.md.length m2, .slice a3 n3 m3, .slice a4 n4 m4, .slice a5 n5 m5, .slice a6 ss.length m6, .slice a7 n7 m7, .slice a8 P.dp.length m8], .slice da l.length dc] rfl (fun w hx _ => by refine (HS2.out w ((grows (a := W) (b := (w3.alloc (.cells #[.slice y30 RE.va.length z30, .slice y31 RE.fi.length z31, .slice y32 RE.me.length z32, .slice y33 RE.pl.length z33] 37)))).trans hx)).mono ?_; rintro e w9 ⟨sv, he, hx9, ho9⟩; obtain ⟨oa9, c9, rfl⟩ := own_slice ho9; exact ⟨_, he, hx9, oa9, c9, rfl, own_src ho9 (i64s_one _), own_max ho9⟩) ?_
      intro v14 wq14 _ _ r14
      obtain ⟨oa14, c14, rfl, _⟩ := r14
      simp only [Act.put, List.setIfInBounds_toArray, List.set_cons_succ, List.set_cons_zero]
      refine Rel.callG (fun v _ => v = .bool true) rfl rfl rfl Try.func28 (by nofun) (by decide) #[.slice oa11 RL.length c11, .slice oa14 RL.length c14] rfl (fun w hx hf => by obtain ⟨_, _, _, n1⟩ := (hf 11 (by kernel_rfl)).1.2 rfl; obtain ⟨_, _, _, n2⟩ := (hf 14 (by kernel_rfl)).2 rfl; refine (HEI.out w _ _ n1 n2).mono ?_; rintro e w9 ⟨he, hx9⟩; exact ⟨_, he, hx9, rfl⟩) ?_
      intro v15 wq15 _ _ r15
      subst r15
      simp only [Act.put, List.setIfInBounds_toArray, List.set_cons_succ, List.set_cons_zero]
      refine Rel.chunk 2 rfl rfl rfl ?_
      simp only [List.take_succ_cons, List.take_zero, List.drop_succ_cons, List.drop_zero, Nat.reduceAdd]
      repeat (go_big_quiet_step (fail))
      refine wpQuiet_nil ?_
      refine Rel.callG (fun v _ => v = .bool true) rfl rfl rfl Try.func22 (by nofun) (by decide) #[] rfl (fun w hx _ => by refine (pworks_any w).mono ?_; rintro e w9 ⟨he, hx9⟩; exact ⟨_, he, hx9, rfl⟩) ?_
      intro v18 wq18 _ _ r18
      subst r18
      simp only [Act.put, List.setIfInBounds_toArray, List.set_cons_succ, List.set_cons_zero]
      refine Rel.chunk 2 rfl rfl rfl ?_
      simp only [List.take_succ_cons, List.take_zero, List.drop_succ_cons, List.drop_zero, Nat.reduceAdd]
      repeat (go_big_quiet_step (fail))
      refine wpQuiet_nil ?_
      refine Rel.fin ?_
      intro w8 hx8 _
      have s8 := Step.mk hx8
      go_wp2_with fail
      go_ret
      exact ⟨rfl, grows⟩
    · have g1 : decide ((600 : Int) < (l.length : Int)) = true := decide_eq_true (by omega)
      clear hq hhs hmd hss hob hsrc hby hcp
      dsimp only [Pg.PV.val]
      go_enter Try.func7, Try.ntmps7
      go_wp2_with fail
      refine (HTL.out _ grows).mono ?_
      rintro e w1 ⟨rfl, xw1⟩
      have sw1 := Step.mk xw1
      clear xw1
      go_wp2_with fail
      refine (pworks_any _).mono ?_
      rintro e wk ⟨rfl, xwk⟩
      have swk := Step.mk xwk
      clear xwk
      go_wp2_with fail
      go_ret
      exact ⟨rfl, grows⟩
end Go.Proofs.Ytonnlcjkgpahoaa
