/- The environment: the law Checks, walked. No condition. -/
import Derived.Test.YtdgepbolfflidaaEqG
namespace Go.Proofs.Ytdgepbolfflidaa
open Go.RowKit

set_option maxRecDepth 8000 in
set_option maxHeartbeats 8000000 in
theorem envChecks_walk (v0 v1 v2 : Value) (W : World) {b0 b1 b2 : Nat} {r0 r1 r2 : Reach} {H : Type} {enc : TypeId × Value → H} {d0 d1 d2 : DataW H} {p0 p1 p2 : List MemPlace}
    (ok0 : Value.okWide Try.prog W r0 b0 61 v0) (h0 : DataW.Trod enc Try.prog W 0 (fun _ => true) true 61 v0 d0 p0)
    (ok1 : Value.okWide Try.prog W r1 b1 65 v1) (h1 : DataW.Trod enc Try.prog W 0 (fun _ => true) true 65 v1 d1 p1)
    (ok2 : Value.okWide Try.prog W r2 b2 67 v2) (h2 : DataW.Trod enc Try.prog W 0 (fun _ => true) true 67 v2 d2 p2) :
    Calls Try.prog 5 #[v0, v1, v2] W (Rets W (.bool true)) := by
  obtain ⟨p, P, rfl, hp, _⟩ := prog_take ok0 h0
  obtain ⟨ea, E, rfl, he⟩ := env_take ok1 h1
  obtain ⟨a, b, rfl⟩ := ref_take ok2 h2
  clear ok2 h2 d2
  clear ok0 h0 ok1 h1 d0 d1
  have hA : EnvV W ea.val E := ⟨ea, rfl, he⟩
  have htl := fun w (hx : Ext W w) => toolarge_any (hp.ext hx)
  have hlo := fun w (hx : Ext W w) => long_any (he.ext hx)
  obtain ⟨s, a1, a2, a3, a4, a5, a6, a7, a8, m1, m2, n3, m3, n4, m4, n5, m5, n6, m6, n7, m7, m8, hf⟩ := hp.form
  obtain ⟨rfl, _, _, _, _, _, _⟩ := hf
  obtain ⟨b0, b1, b2, b3, d0, d1, d2, d3, hg⟩ := he.form
  obtain ⟨rfl, _, _, _, _, _, _, _, _⟩ := hg
  dsimp only [Pg.PV.val, Pg.EV.val] at hA htl hlo hp ⊢
  obtain ⟨t0, ht0⟩ : ∃ t, t = !En.okP P := ⟨_, rfl⟩
  obtain ⟨t1, ht1⟩ : ∃ t, t = !En.okE E := ⟨_, rfl⟩
  rw [← ht0] at htl
  rw [← ht1] at hlo
  have HTL := Lib.hid htl
  have HLO := Lib.hid hlo
  have bx := alloc_heap W (.cells #[.string s, .slice a1 P.hs.length m1, .slice a2 P.md.length m2, .slice a3 n3 m3, .slice a4 n4 m4, .slice a5 n5 m5, .slice a6 n6 m6, .slice a7 n7 m7, .slice a8 P.dp.length m8] 61)
  have pc0 := alw (cell_of (o := 0) bx)
  have pc1 := alw (cell_of (o := 1) bx)
  have pc2 := alw (cell_of (o := 2) bx)
  have pc3 := alw (cell_of (o := 3) bx)
  have pc4 := alw (cell_of (o := 4) bx)
  have pc5 := alw (cell_of (o := 5) bx)
  have pc6 := alw (cell_of (o := 6) bx)
  have pc7 := alw (cell_of (o := 7) bx)
  have pc8 := alw (cell_of (o := 8) bx)
  clear bx
  have bx := alloc_heap (W.alloc (.cells #[.string s, .slice a1 P.hs.length m1, .slice a2 P.md.length m2, .slice a3 n3 m3, .slice a4 n4 m4, .slice a5 n5 m5, .slice a6 n6 m6, .slice a7 n7 m7, .slice a8 P.dp.length m8] 61)) (.cells #[.slice b0 E.va.length d0, .slice b1 E.fi.length d1, .slice b2 E.me.length d2, .slice b3 E.pl.length d3] 65)
  rw [World.size_alloc] at bx
  have ec0 := alw (cell_of (o := 0) bx)
  have ec1 := alw (cell_of (o := 1) bx)
  have ec2 := alw (cell_of (o := 2) bx)
  have ec3 := alw (cell_of (o := 3) bx)
  clear bx
  have bx := alloc_heap ((W.alloc (.cells #[.string s, .slice a1 P.hs.length m1, .slice a2 P.md.length m2, .slice a3 n3 m3, .slice a4 n4 m4, .slice a5 n5 m5, .slice a6 n6 m6, .slice a7 n7 m7, .slice a8 P.dp.length m8] 61)).alloc (.cells #[.slice b0 E.va.length d0, .slice b1 E.fi.length d1, .slice b2 E.me.length d2, .slice b3 E.pl.length d3] 65)) (.cells #[.int .i64 a, .int .i64 b] 67)
  rw [World.size_alloc, World.size_alloc] at bx
  have rc0 := alw (cell_of (o := 0) bx)
  have rc1 := alw (cell_of (o := 1) bx)
  clear bx
  cases t0 with
  | true =>
    clear ht0 ht1 hA hp
    go_enter Try.func5, Try.ntmps5
    go_wp2_with fail
    refine (HTL.out _ grows).mono ?_
    rintro e w1 ⟨rfl, xw1⟩
    have sw1 := Step.mk xw1
    go_wp2_with fail
    refine (eworks_any _).mono ?_
    rintro e w5 ⟨rfl, x5⟩
    have s5 := Step.mk x5
    go_wp2_with fail
    go_ret
    exact ⟨rfl, grows⟩
  | false =>
    cases t1 with
    | true =>
      clear ht0 ht1 hA hp
      go_enter Try.func5, Try.ntmps5
      go_wp2_with fail
      refine (HTL.out _ grows).mono ?_
      rintro e w1 ⟨rfl, xw1⟩
      have sw1 := Step.mk xw1
      go_wp2_with fail
      refine (HLO.out _ grows).mono ?_
      rintro e w2 ⟨rfl, xw2⟩
      have sw2 := Step.mk xw2
      go_wp2_with fail
      refine (eworks_any _).mono ?_
      rintro e w5 ⟨rfl, x5⟩
      have s5 := Step.mk x5
      go_wp2_with fail
      go_ret
      exact ⟨rfl, grows⟩
    | false =>
      have hcp := En.okP_cap (P := P) (by simpa using ht0.symm)
      obtain ⟨q, hq⟩ : ∃ z, z = Pg.wid P a b := ⟨_, rfl⟩
      obtain ⟨r, hr⟩ : ∃ z, z = Pg.chkE P E := ⟨_, rfl⟩
      have HW1 : Hid (∀ w, Ext W w → Calls Try.prog 34 #[.agg #[.string s, .slice a1 P.hs.length m1, .slice a2 P.md.length m2, .slice a3 n3 m3, .slice a4 n4 m4, .slice a5 n5 m5, .slice a6 n6 m6, .slice a7 n7 m7, .slice a8 P.dp.length m8], .agg #[.int .i64 a, .int .i64 b]] w (Rets w (.int .i64 q))) := Lib.hid (fun w hx => by have h := width_any (hp.ext hx) a b; rw [← hq] at h; exact h)
      have HW2 : Hid (∀ w, Ext W w → Calls Try.prog 35 #[.agg #[.string s, .slice a1 P.hs.length m1, .slice a2 P.md.length m2, .slice a3 n3 m3, .slice a4 n4 m4, .slice a5 n5 m5, .slice a6 n6 m6, .slice a7 n7 m7, .slice a8 P.dp.length m8], .agg #[.int .i64 a, .int .i64 b]] w (Rets w (.int .i64 q))) := Lib.hid (fun w hx => by have h := rwidth_any (hp.ext hx) a b; rw [← hq] at h; exact h)
      have HN1 : Hid (∀ w, Ext W w → Calls Try.prog 37 #[.agg #[.string s, .slice a1 P.hs.length m1, .slice a2 P.md.length m2, .slice a3 n3 m3, .slice a4 n4 m4, .slice a5 n5 m5, .slice a6 n6 m6, .slice a7 n7 m7, .slice a8 P.dp.length m8]] w (EnvR w (En.new P))) := Lib.hid (fun w hx => by have h := newV (hp.ext hx) hcp; exact h)
      have HN2 : Hid (∀ w, Ext W w → Calls Try.prog 38 #[.agg #[.string s, .slice a1 P.hs.length m1, .slice a2 P.md.length m2, .slice a3 n3 m3, .slice a4 n4 m4, .slice a5 n5 m5, .slice a6 n6 m6, .slice a7 n7 m7, .slice a8 P.dp.length m8]] w (EnvR w (En.new P))) := Lib.hid (fun w hx => by have h := rnewV (hp.ext hx) hcp; exact h)
      have HC1 : Hid (∀ w, Ext W w → Calls Try.prog 39 #[.agg #[.string s, .slice a1 P.hs.length m1, .slice a2 P.md.length m2, .slice a3 n3 m3, .slice a4 n4 m4, .slice a5 n5 m5, .slice a6 n6 m6, .slice a7 n7 m7, .slice a8 P.dp.length m8], .agg #[.slice b0 E.va.length d0, .slice b1 E.fi.length d1, .slice b2 E.me.length d2, .slice b3 E.pl.length d3]] w (Rets w (.int .i64 r))) := Lib.hid (fun w hx => by have h := chkV (hp.ext hx) (hA.ext hx); rw [← hr] at h; exact h)
      have HC2 : Hid (∀ w, Ext W w → Calls Try.prog 40 #[.agg #[.string s, .slice a1 P.hs.length m1, .slice a2 P.md.length m2, .slice a3 n3 m3, .slice a4 n4 m4, .slice a5 n5 m5, .slice a6 n6 m6, .slice a7 n7 m7, .slice a8 P.dp.length m8], .agg #[.slice b0 E.va.length d0, .slice b1 E.fi.length d1, .slice b2 E.me.length d2, .slice b3 E.pl.length d3]] w (Rets w (.int .i64 r))) := Lib.hid (fun w hx => by have h := rchkV (hp.ext hx) (hA.ext hx); rw [← hr] at h; exact h)
      have HCN : Hid (∀ w, Ext W w → ∀ v, EnvV w v (En.new P) → Calls Try.prog 39 #[.agg #[.string s, .slice a1 P.hs.length m1, .slice a2 P.md.length m2, .slice a3 n3 m3, .slice a4 n4 m4, .slice a5 n5 m5, .slice a6 n6 m6, .slice a7 n7 m7, .slice a8 P.dp.length m8], v] w (Rets w (.int .i64 0))) := Lib.hid (fun w hx v hv => by have h := chkV (hp.ext hx) hv; rw [En.chk_new] at h; exact h)
      clear ht0 ht1 hA hp hq hr hcp htl hlo
      go_enter Try.func5, Try.ntmps5
      go_wp2_with fail
      refine (HTL.out _ grows).mono ?_
      rintro e w1 ⟨rfl, xw1⟩
      have sw1 := Step.mk xw1
      go_wp2_with fail
      refine (HLO.out _ grows).mono ?_
      rintro e w2 ⟨rfl, xw2⟩
      have sw2 := Step.mk xw2
      go_wp2_with fail
      refine Rel.region (W := w2) (Rel.tab [(2, fun v _ => v = .int .i64 q), (5, fun v _ => v = .int .i64 q), (9, fun v w => EnvV w v (En.new P)), (11, fun v w => EnvV w v (En.new P)), (12, fun v _ => v = .bool true), (17, fun v _ => v = .int .i64 r), (20, fun v _ => v = .int .i64 r), (26, fun v w => EnvV w v (En.new P)), (27, fun v _ => v = .int .i64 0), (31, fun v _ => v = .bool true)]) (Rel.tab_lasts (by intro p hp v w w' hr hx; simp only [List.mem_cons, List.not_mem_nil, or_false] at hp; rcases hp with rfl | rfl | rfl | rfl | rfl | rfl | rfl | rfl | rfl | rfl; (· exact hr); (· exact hr); (· exact EnvV.ext hr hx); (· exact EnvV.ext hr hx); (· exact hr); (· exact hr); (· exact hr); (· exact EnvV.ext hr hx); (· exact hr); (· exact hr))) (by kernel_rfl) (by kernel_rfl) (Ext.refl _) ?_
      refine Rel.chunk 2 rfl rfl rfl ?_
      simp only [List.take_succ_cons, List.take_zero, List.drop_succ_cons, List.drop_zero, Nat.reduceAdd]
      repeat (go_big_quiet_step (fail))
      refine wpQuiet_nil ?_
      refine Rel.callG (fun v _ => v = .int .i64 q) rfl rfl rfl Try.func34 (by nofun) (by decide) #[.agg #[.string s, .slice a1 P.hs.length m1, .slice a2 P.md.length m2, .slice a3 n3 m3, .slice a4 n4 m4, .slice a5 n5 m5, .slice a6 n6 m6, .slice a7 n7 m7, .slice a8 P.dp.length m8], .agg #[.int .i64 a, .int .i64 b]] rfl (fun w hx _ => by refine (HW1.out w ((grows (a := W) (b := w2)).trans hx)).mono ?_; rintro e w9 ⟨he, hx9⟩; exact ⟨_, he, hx9, rfl⟩) ?_
      intro v2 wq2 _ _ r2
      subst r2
      simp only [Act.put, List.setIfInBounds_toArray, List.set_cons_succ, List.set_cons_zero]
      refine Rel.chunk 2 rfl rfl rfl ?_
      simp only [List.take_succ_cons, List.take_zero, List.drop_succ_cons, List.drop_zero, Nat.reduceAdd]
      repeat (go_big_quiet_step (fail))
      refine wpQuiet_nil ?_
      refine Rel.callG (fun v _ => v = .int .i64 q) rfl rfl rfl Try.func35 (by nofun) (by decide) #[.agg #[.string s, .slice a1 P.hs.length m1, .slice a2 P.md.length m2, .slice a3 n3 m3, .slice a4 n4 m4, .slice a5 n5 m5, .slice a6 n6 m6, .slice a7 n7 m7, .slice a8 P.dp.length m8], .agg #[.int .i64 a, .int .i64 b]] rfl (fun w hx _ => by refine (HW2.out w ((grows (a := W) (b := w2)).trans hx)).mono ?_; rintro e w9 ⟨he, hx9⟩; exact ⟨_, he, hx9, rfl⟩) ?_
      intro v5 wq5 _ _ r5
      subst r5
      simp only [Act.put, List.setIfInBounds_toArray, List.set_cons_succ, List.set_cons_zero]
      refine Rel.chunk 3 rfl rfl rfl ?_
      simp only [List.take_succ_cons, List.take_zero, List.drop_succ_cons, List.drop_zero, Nat.reduceAdd]
      repeat (go_big_quiet_step (fail))
      refine wpQuiet_nil ?_
      refine Rel.callG (fun v w => EnvV w v (En.new P)) rfl rfl rfl Try.func37 (by nofun) (by decide) #[.agg #[.string s, .slice a1 P.hs.length m1, .slice a2 P.md.length m2, .slice a3 n3 m3, .slice a4 n4 m4, .slice a5 n5 m5, .slice a6 n6 m6, .slice a7 n7 m7, .slice a8 P.dp.length m8]] rfl (fun w hx _ => by refine (HN1.out w ((grows (a := W) (b := w2)).trans hx)).mono ?_; rintro e w9 ⟨u9, he, hx9, hr9⟩; exact ⟨u9, he, hx9, hr9⟩) ?_
      intro v9 wq9 _ _ _
      simp only [Act.put, List.setIfInBounds_toArray, List.set_cons_succ, List.set_cons_zero]
      refine Rel.chunk 1 rfl rfl rfl ?_
      simp only [List.take_succ_cons, List.take_zero, List.drop_succ_cons, List.drop_zero, Nat.reduceAdd]
      repeat (go_big_quiet_step (fail))
      refine wpQuiet_nil ?_
      refine Rel.callG (fun v w => EnvV w v (En.new P)) rfl rfl rfl Try.func38 (by nofun) (by decide) #[.agg #[.string s, .slice a1 P.hs.length m1, .slice a2 P.md.length m2, .slice a3 n3 m3, .slice a4 n4 m4, .slice a5 n5 m5, .slice a6 n6 m6, .slice a7 n7 m7, .slice a8 P.dp.length m8]] rfl (fun w hx _ => by refine (HN2.out w ((grows (a := W) (b := w2)).trans hx)).mono ?_; rintro e w9 ⟨u9, he, hx9, hr9⟩; exact ⟨u9, he, hx9, hr9⟩) ?_
      intro v11 wq11 _ _ _
      simp only [Act.put, List.setIfInBounds_toArray, List.set_cons_succ, List.set_cons_zero]
      refine Rel.callG (fun v _ => v = .bool true) rfl rfl rfl Try.func36 (by nofun) (by decide) #[v9, v11] rfl (fun w hx hf => by have e1 := (hf 9 (by kernel_rfl)).1.2 rfl; have e2 := (hf 11 (by kernel_rfl)).2 rfl; have h := reqV e1 e2; rw [En.eq_self] at h; refine h.mono ?_; rintro e w9 ⟨he, hx9⟩; exact ⟨_, he, hx9, rfl⟩) ?_
      intro v12 wq12 _ _ r12
      subst r12
      simp only [Act.put, List.setIfInBounds_toArray, List.set_cons_succ, List.set_cons_zero]
      refine Rel.chunk 4 rfl rfl rfl ?_
      simp only [List.take_succ_cons, List.take_zero, List.drop_succ_cons, List.drop_zero, Nat.reduceAdd]
      repeat (go_big_quiet_step (fail))
      refine wpQuiet_nil ?_
      refine Rel.callG (fun v _ => v = .int .i64 r) rfl rfl rfl Try.func39 (by nofun) (by decide) #[.agg #[.string s, .slice a1 P.hs.length m1, .slice a2 P.md.length m2, .slice a3 n3 m3, .slice a4 n4 m4, .slice a5 n5 m5, .slice a6 n6 m6, .slice a7 n7 m7, .slice a8 P.dp.length m8], .agg #[.slice b0 E.va.length d0, .slice b1 E.fi.length d1, .slice b2 E.me.length d2, .slice b3 E.pl.length d3]] rfl (fun w hx _ => by refine (HC1.out w ((grows (a := W) (b := w2)).trans hx)).mono ?_; rintro e w9 ⟨he, hx9⟩; exact ⟨_, he, hx9, rfl⟩) ?_
      intro v17 wq17 _ _ r17
      subst r17
      simp only [Act.put, List.setIfInBounds_toArray, List.set_cons_succ, List.set_cons_zero]
      refine Rel.chunk 2 rfl rfl rfl ?_
      simp only [List.take_succ_cons, List.take_zero, List.drop_succ_cons, List.drop_zero, Nat.reduceAdd]
      repeat (go_big_quiet_step (fail))
      refine wpQuiet_nil ?_
      refine Rel.callG (fun v _ => v = .int .i64 r) rfl rfl rfl Try.func40 (by nofun) (by decide) #[.agg #[.string s, .slice a1 P.hs.length m1, .slice a2 P.md.length m2, .slice a3 n3 m3, .slice a4 n4 m4, .slice a5 n5 m5, .slice a6 n6 m6, .slice a7 n7 m7, .slice a8 P.dp.length m8], .agg #[.slice b0 E.va.length d0, .slice b1 E.fi.length d1, .slice b2 E.me.length d2, .slice b3 E.pl.length d3]] rfl (fun w hx _ => by refine (HC2.out w ((grows (a := W) (b := w2)).trans hx)).mono ?_; rintro e w9 ⟨he, hx9⟩; exact ⟨_, he, hx9, rfl⟩) ?_
      intro v20 wq20 _ _ r20
      subst r20
      simp only [Act.put, List.setIfInBounds_toArray, List.set_cons_succ, List.set_cons_zero]
      refine Rel.chunk 5 rfl rfl rfl ?_
      simp only [List.take_succ_cons, List.take_zero, List.drop_succ_cons, List.drop_zero, Nat.reduceAdd]
      repeat (go_big_quiet_step (fail))
      refine wpQuiet_nil ?_
      refine Rel.callG (fun v w => EnvV w v (En.new P)) rfl rfl rfl Try.func38 (by nofun) (by decide) #[.agg #[.string s, .slice a1 P.hs.length m1, .slice a2 P.md.length m2, .slice a3 n3 m3, .slice a4 n4 m4, .slice a5 n5 m5, .slice a6 n6 m6, .slice a7 n7 m7, .slice a8 P.dp.length m8]] rfl (fun w hx _ => by refine (HN2.out w ((grows (a := W) (b := w2)).trans hx)).mono ?_; rintro e w9 ⟨u9, he, hx9, hr9⟩; exact ⟨u9, he, hx9, hr9⟩) ?_
      intro v26 wq26 _ _ _
      simp only [Act.put, List.setIfInBounds_toArray, List.set_cons_succ, List.set_cons_zero]
      refine Rel.callG (fun v _ => v = .int .i64 0) rfl rfl rfl Try.func39 (by nofun) (by decide) #[.agg #[.string s, .slice a1 P.hs.length m1, .slice a2 P.md.length m2, .slice a3 n3 m3, .slice a4 n4 m4, .slice a5 n5 m5, .slice a6 n6 m6, .slice a7 n7 m7, .slice a8 P.dp.length m8], v26] rfl (fun w hx hf => by have e1 := (hf 26 (by kernel_rfl)).2 rfl; have h := HCN.out w ((grows (a := W) (b := w2)).trans hx) _ e1; refine h.mono ?_; rintro e w9 ⟨he, hx9⟩; exact ⟨_, he, hx9, rfl⟩) ?_
      intro v27 wq27 _ _ r27
      subst r27
      simp only [Act.put, List.setIfInBounds_toArray, List.set_cons_succ, List.set_cons_zero]
      refine Rel.chunk 3 rfl rfl rfl ?_
      simp only [List.take_succ_cons, List.take_zero, List.drop_succ_cons, List.drop_zero, Nat.reduceAdd]
      repeat (go_big_quiet_step (fail))
      refine wpQuiet_nil ?_
      refine Rel.callG (fun v _ => v = .bool true) rfl rfl rfl Try.func33 (by nofun) (by decide) #[] rfl (fun w hx _ => by refine (eworks_any w).mono ?_; rintro e w9 ⟨he, hx9⟩; exact ⟨_, he, hx9, rfl⟩) ?_
      intro v31 wq31 _ _ r31
      subst r31
      simp only [Act.put, List.setIfInBounds_toArray, List.set_cons_succ, List.set_cons_zero]
      refine Rel.chunk 2 rfl rfl rfl ?_
      simp only [List.take_succ_cons, List.take_zero, List.drop_succ_cons, List.drop_zero, Nat.reduceAdd]
      repeat (go_big_quiet_step (fail))
      refine wpQuiet_nil ?_
      refine Rel.fin ?_
      intro w8 hx8 _
      have s8 := Step.mk hx8
      go_wp2_with fail
      go_ret
      exact ⟨rfl, grows⟩
end Go.Proofs.Ytdgepbolfflidaa
