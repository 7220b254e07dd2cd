/- The environment: the law Operations, walked. No condition. -/
import Derived.Test.YtdgepbolfflidaaEqH
namespace Go.Proofs.Ytdgepbolfflidaa
open Go.RowKit

set_option maxRecDepth 8000 in
set_option maxHeartbeats 8000000 in
theorem envOperations_walk (v0 v1 v2 : Value) (W : World) {b0 b1 b2 : Nat} {r0 r1 r2 : Reach} {H : Type} {enc : TypeId × Value → H} {d0 d1 d2 : DataW H} {p0 p1 p2 : List MemPlace}
    (ok0 : Value.okWide Try.prog W r0 b0 61 v0) (h0 : DataW.Trod enc Try.prog W 0 (fun _ => true) true 61 v0 d0 p0)
    (ok1 : Value.okWide Try.prog W r1 b1 65 v1) (h1 : DataW.Trod enc Try.prog W 0 (fun _ => true) true 65 v1 d1 p1)
    (ok2 : Value.okWide Try.prog W r2 b2 76 v2) (h2 : DataW.Trod enc Try.prog W 0 (fun _ => true) true 76 v2 d2 p2) :
    Calls Try.prog 6 #[v0, v1, v2] W (Rets W (.bool true)) := by
  obtain ⟨p, P, rfl, hp, _⟩ := prog_take ok0 h0
  obtain ⟨ea, E, rfl, he⟩ := env_take ok1 h1
  obtain ⟨a, b, x, c, rfl, x0, x1⟩ := acc_take ok2 h2
  clear ok2 h2 d2
  clear ok0 h0 ok1 h1 d0 d1
  have hA : EnvV W ea.val E := ⟨ea, rfl, he⟩
  have htl := fun w (hx : Ext W w) => toolarge_any (hp.ext hx)
  have hlo := fun w (hx : Ext W w) => long_any (he.ext hx)
  obtain ⟨s, a1, a2, a3, a4, a5, a6, a7, a8, m1, m2, n3, m3, n4, m4, n5, m5, n6, m6, n7, m7, m8, hf⟩ := hp.form
  obtain ⟨rfl, _, _, _, _, _, _⟩ := hf
  obtain ⟨b0, b1, b2, b3, d0, d1, d2, d3, hg⟩ := he.form
  obtain ⟨rfl, _, _, _, _, _, _, _, _⟩ := hg
  dsimp only [Pg.PV.val, Pg.EV.val] at hA htl hlo hp ⊢
  obtain ⟨t0, ht0⟩ : ∃ t, t = !En.okP P := ⟨_, rfl⟩
  obtain ⟨t1, ht1⟩ : ∃ t, t = !En.okE E := ⟨_, rfl⟩
  rw [← ht0] at htl
  rw [← ht1] at hlo
  have HTL := Lib.hid htl
  have HLO := Lib.hid hlo
  have bx := alloc_heap W (.cells #[.string s, .slice a1 P.hs.length m1, .slice a2 P.md.length m2, .slice a3 n3 m3, .slice a4 n4 m4, .slice a5 n5 m5, .slice a6 n6 m6, .slice a7 n7 m7, .slice a8 P.dp.length m8] 61)
  have pc0 := alw (cell_of (o := 0) bx)
  have pc1 := alw (cell_of (o := 1) bx)
  have pc2 := alw (cell_of (o := 2) bx)
  have pc3 := alw (cell_of (o := 3) bx)
  have pc4 := alw (cell_of (o := 4) bx)
  have pc5 := alw (cell_of (o := 5) bx)
  have pc6 := alw (cell_of (o := 6) bx)
  have pc7 := alw (cell_of (o := 7) bx)
  have pc8 := alw (cell_of (o := 8) bx)
  clear bx
  have bx := alloc_heap (W.alloc (.cells #[.string s, .slice a1 P.hs.length m1, .slice a2 P.md.length m2, .slice a3 n3 m3, .slice a4 n4 m4, .slice a5 n5 m5, .slice a6 n6 m6, .slice a7 n7 m7, .slice a8 P.dp.length m8] 61)) (.cells #[.slice b0 E.va.length d0, .slice b1 E.fi.length d1, .slice b2 E.me.length d2, .slice b3 E.pl.length d3] 65)
  rw [World.size_alloc] at bx
  have ec0 := alw (cell_of (o := 0) bx)
  have ec1 := alw (cell_of (o := 1) bx)
  have ec2 := alw (cell_of (o := 2) bx)
  have ec3 := alw (cell_of (o := 3) bx)
  clear bx
  have bx := alloc_heap ((W.alloc (.cells #[.string s, .slice a1 P.hs.length m1, .slice a2 P.md.length m2, .slice a3 n3 m3, .slice a4 n4 m4, .slice a5 n5 m5, .slice a6 n6 m6, .slice a7 n7 m7, .slice a8 P.dp.length m8] 61)).alloc (.cells #[.slice b0 E.va.length d0, .slice b1 E.fi.length d1, .slice b2 E.me.length d2, .slice b3 E.pl.length d3] 65)) (.cells #[.int .i64 a, .int .i64 b, .int .u32 x, .int .i64 c] 76)
  rw [World.size_alloc, World.size_alloc] at bx
  have rc0 := alw (cell_of (o := 0) bx)
  have rc1 := alw (cell_of (o := 1) bx)
  have rc2 := alw (cell_of (o := 2) bx)
  have rc3 := alw (cell_of (o := 3) bx)
  clear bx
  cases t0 with
  | true =>
    clear ht0 ht1 hA hp
    go_enter Try.func6, Try.ntmps6
    go_wp2_with fail
    refine (HTL.out _ grows).mono ?_
    rintro e w1 ⟨rfl, xw1⟩
    have sw1 := Step.mk xw1
    go_wp2_with fail
    refine (eworks_any _).mono ?_
    rintro e w5 ⟨rfl, x5⟩
    have s5 := Step.mk x5
    go_wp2_with fail
    go_ret
    exact ⟨rfl, grows⟩
  | false =>
    cases t1 with
    | true =>
      clear ht0 ht1 hA hp
      go_enter Try.func6, Try.ntmps6
      go_wp2_with fail
      refine (HTL.out _ grows).mono ?_
      rintro e w1 ⟨rfl, xw1⟩
      have sw1 := Step.mk xw1
      go_wp2_with fail
      refine (HLO.out _ grows).mono ?_
      rintro e w2 ⟨rfl, xw2⟩
      have sw2 := Step.mk xw2
      go_wp2_with fail
      refine (eworks_any _).mono ?_
      rintro e w5 ⟨rfl, x5⟩
      have s5 := Step.mk x5
      go_wp2_with fail
      go_ret
      exact ⟨rfl, grows⟩
    | false =>
      have hca := En.okE_cap (E := E) (by simpa using ht1.symm)
      obtain ⟨q, hq⟩ : ∃ z, z = En.get E a b := ⟨_, rfl⟩
      obtain ⟨E1, hE1⟩ : ∃ z, z = (En.set P E a b x) := ⟨_, rfl⟩
      obtain ⟨E2, hE2⟩ : ∃ z, z = (En.switch P E c true true) := ⟨_, rfl⟩
      obtain ⟨E3, hE3⟩ : ∃ z, z = (En.switch P E c false false) := ⟨_, rfl⟩
      have HG1 : Hid (∀ w, Ext W w → Calls Try.prog 41 #[.agg #[.slice b0 E.va.length d0, .slice b1 E.fi.length d1, .slice b2 E.me.length d2, .slice b3 E.pl.length d3], .agg #[.int .i64 a, .int .i64 b]] w (Rets w (.int .u32 q))) := Lib.hid (fun w hx => by have h := getV (hA.ext hx) a b; rw [← hq] at h; exact h)
      have HG2 : Hid (∀ w, Ext W w → Calls Try.prog 42 #[.agg #[.slice b0 E.va.length d0, .slice b1 E.fi.length d1, .slice b2 E.me.length d2, .slice b3 E.pl.length d3], .agg #[.int .i64 a, .int .i64 b]] w (Rets w (.int .u32 q))) := Lib.hid (fun w hx => by have h := rgetV (hA.ext hx) a b; rw [← hq] at h; exact h)
      have HS1 : Hid (∀ w, Ext W w → Calls Try.prog 43 #[.agg #[.string s, .slice a1 P.hs.length m1, .slice a2 P.md.length m2, .slice a3 n3 m3, .slice a4 n4 m4, .slice a5 n5 m5, .slice a6 n6 m6, .slice a7 n7 m7, .slice a8 P.dp.length m8], .agg #[.slice b0 E.va.length d0, .slice b1 E.fi.length d1, .slice b2 E.me.length d2, .slice b3 E.pl.length d3], .agg #[.int .i64 a, .int .i64 b], .int .u32 x] w (EnvR w E1)) := Lib.hid (fun w hx => by have h := setV (hp.ext hx) (hA.ext hx) hca a b x x0 x1; rw [← hE1] at h; exact h)
      have HS2 : Hid (∀ w, Ext W w → Calls Try.prog 44 #[.agg #[.string s, .slice a1 P.hs.length m1, .slice a2 P.md.length m2, .slice a3 n3 m3, .slice a4 n4 m4, .slice a5 n5 m5, .slice a6 n6 m6, .slice a7 n7 m7, .slice a8 P.dp.length m8], .agg #[.slice b0 E.va.length d0, .slice b1 E.fi.length d1, .slice b2 E.me.length d2, .slice b3 E.pl.length d3], .agg #[.int .i64 a, .int .i64 b], .int .u32 x] w (EnvR w E1)) := Lib.hid (fun w hx => by have h := rsetV (hp.ext hx) (hA.ext hx) hca a b x x0 x1; rw [← hE1] at h; exact h)
      have HA1 : Hid (∀ w, Ext W w → Calls Try.prog 45 #[.agg #[.string s, .slice a1 P.hs.length m1, .slice a2 P.md.length m2, .slice a3 n3 m3, .slice a4 n4 m4, .slice a5 n5 m5, .slice a6 n6 m6, .slice a7 n7 m7, .slice a8 P.dp.length m8], .agg #[.slice b0 E.va.length d0, .slice b1 E.fi.length d1, .slice b2 E.me.length d2, .slice b3 E.pl.length d3], .int .i64 c] w (EnvR w E2)) := Lib.hid (fun w hx => by have h := addV (hp.ext hx) (hA.ext hx) hca c; rw [← hE2] at h; exact h)
      have HA2 : Hid (∀ w, Ext W w → Calls Try.prog 46 #[.agg #[.string s, .slice a1 P.hs.length m1, .slice a2 P.md.length m2, .slice a3 n3 m3, .slice a4 n4 m4, .slice a5 n5 m5, .slice a6 n6 m6, .slice a7 n7 m7, .slice a8 P.dp.length m8], .agg #[.slice b0 E.va.length d0, .slice b1 E.fi.length d1, .slice b2 E.me.length d2, .slice b3 E.pl.length d3], .int .i64 c] w (EnvR w E2)) := Lib.hid (fun w hx => by have h := raddV (hp.ext hx) (hA.ext hx) hca c; rw [← hE2] at h; exact h)
      have HR1 : Hid (∀ w, Ext W w → Calls Try.prog 47 #[.agg #[.string s, .slice a1 P.hs.length m1, .slice a2 P.md.length m2, .slice a3 n3 m3, .slice a4 n4 m4, .slice a5 n5 m5, .slice a6 n6 m6, .slice a7 n7 m7, .slice a8 P.dp.length m8], .agg #[.slice b0 E.va.length d0, .slice b1 E.fi.length d1, .slice b2 E.me.length d2, .slice b3 E.pl.length d3], .int .i64 c] w (EnvR w E3)) := Lib.hid (fun w hx => by have h := remV (hp.ext hx) (hA.ext hx) hca c; rw [← hE3] at h; exact h)
      have HR2 : Hid (∀ w, Ext W w → Calls Try.prog 48 #[.agg #[.string s, .slice a1 P.hs.length m1, .slice a2 P.md.length m2, .slice a3 n3 m3, .slice a4 n4 m4, .slice a5 n5 m5, .slice a6 n6 m6, .slice a7 n7 m7, .slice a8 P.dp.length m8], .agg #[.slice b0 E.va.length d0, .slice b1 E.fi.length d1, .slice b2 E.me.length d2, .slice b3 E.pl.length d3], .int .i64 c] w (EnvR w E3)) := Lib.hid (fun w hx => by have h := rremV (hp.ext hx) (hA.ext hx) hca c; rw [← hE3] at h; exact h)
      clear ht0 ht1 hA hp hq hE1 hE2 hE3 hca htl hlo x0 x1
      go_enter Try.func6, Try.ntmps6
      go_wp2_with fail
      refine (HTL.out _ grows).mono ?_
      rintro e w1 ⟨rfl, xw1⟩
      have sw1 := Step.mk xw1
      go_wp2_with fail
      refine (HLO.out _ grows).mono ?_
      rintro e w2 ⟨rfl, xw2⟩
      have sw2 := Step.mk xw2
      go_wp2_with fail
      refine Rel.region (W := w2) (Rel.tab [(3, fun v _ => v = .int .u32 q), (7, fun v _ => v = .int .u32 q), (16, fun v w => EnvV w v E1), (23, fun v w => EnvV w v E1), (24, fun v _ => v = .bool true), (31, fun v w => EnvV w v E2), (36, fun v w => EnvV w v E2), (37, fun v _ => v = .bool true), (44, fun v w => EnvV w v E3), (49, fun v w => EnvV w v E3), (50, fun v _ => v = .bool true), (53, fun v _ => v = .bool true)]) (Rel.tab_lasts (by intro p hp v w w' hr hx; simp only [List.mem_cons, List.not_mem_nil, or_false] at hp; rcases hp with rfl | rfl | rfl | rfl | rfl | rfl | rfl | rfl | rfl | rfl | rfl | rfl; (· exact hr); (· exact hr); (· exact EnvV.ext hr hx); (· exact EnvV.ext hr hx); (· exact hr); (· exact EnvV.ext hr hx); (· exact EnvV.ext hr hx); (· exact hr); (· exact EnvV.ext hr hx); (· exact EnvV.ext hr hx); (· exact hr); (· exact hr))) (by kernel_rfl) (by kernel_rfl) (Ext.refl _) ?_
      refine Rel.chunk 3 rfl rfl rfl ?_
      simp only [List.take_succ_cons, List.take_zero, List.drop_succ_cons, List.drop_zero, Nat.reduceAdd]
      repeat (go_big_quiet_step (fail))
      refine wpQuiet_nil ?_
      refine Rel.callG (fun v _ => v = .int .u32 q) rfl rfl rfl Try.func41 (by nofun) (by decide) #[.agg #[.slice b0 E.va.length d0, .slice b1 E.fi.length d1, .slice b2 E.me.length d2, .slice b3 E.pl.length d3], .agg #[.int .i64 a, .int .i64 b]] rfl (fun w hx _ => by refine (HG1.out w ((grows (a := W) (b := w2)).trans hx)).mono ?_; rintro e w9 ⟨he, hx9⟩; exact ⟨_, he, hx9, rfl⟩) ?_
      intro v3 wq3 _ _ r3
      subst r3
      simp only [Act.put, List.setIfInBounds_toArray, List.set_cons_succ, List.set_cons_zero]
      refine Rel.chunk 3 rfl rfl rfl ?_
      simp only [List.take_succ_cons, List.take_zero, List.drop_succ_cons, List.drop_zero, Nat.reduceAdd]
      repeat (go_big_quiet_step (fail))
      refine wpQuiet_nil ?_
      refine Rel.callG (fun v _ => v = .int .u32 q) rfl rfl rfl Try.func42 (by nofun) (by decide) #[.agg #[.slice b0 E.va.length d0, .slice b1 E.fi.length d1, .slice b2 E.me.length d2, .slice b3 E.pl.length d3], .agg #[.int .i64 a, .int .i64 b]] rfl (fun w hx _ => by refine (HG2.out w ((grows (a := W) (b := w2)).trans hx)).mono ?_; rintro e w9 ⟨he, hx9⟩; exact ⟨_, he, hx9, rfl⟩) ?_
      intro v7 wq7 _ _ r7
      subst r7
      simp only [Act.put, List.setIfInBounds_toArray, List.set_cons_succ, List.set_cons_zero]
      refine Rel.chunk 8 rfl rfl rfl ?_
      simp only [List.take_succ_cons, List.take_zero, List.drop_succ_cons, List.drop_zero, Nat.reduceAdd]
      repeat (go_big_quiet_step (fail))
      refine wpQuiet_nil ?_
      refine Rel.callG (fun v w => EnvV w v E1) rfl rfl rfl Try.func43 (by nofun) (by decide) #[.agg #[.string s, .slice a1 P.hs.length m1, .slice a2 P.md.length m2, .slice a3 n3 m3, .slice a4 n4 m4, .slice a5 n5 m5, .slice a6 n6 m6, .slice a7 n7 m7, .slice a8 P.dp.length m8], .agg #[.slice b0 E.va.length d0, .slice b1 E.fi.length d1, .slice b2 E.me.length d2, .slice b3 E.pl.length d3], .agg #[.int .i64 a, .int .i64 b], .int .u32 x] rfl (fun w hx _ => by refine (HS1.out w ((grows (a := W) (b := w2)).trans hx)).mono ?_; rintro e w9 ⟨u9, he, hx9, hr9⟩; exact ⟨u9, he, hx9, hr9⟩) ?_
      intro v16 wq16 _ _ _
      simp only [Act.put, List.setIfInBounds_toArray, List.set_cons_succ, List.set_cons_zero]
      refine Rel.chunk 6 rfl rfl rfl ?_
      simp only [List.take_succ_cons, List.take_zero, List.drop_succ_cons, List.drop_zero, Nat.reduceAdd]
      repeat (go_big_quiet_step (fail))
      refine wpQuiet_nil ?_
      refine Rel.callG (fun v w => EnvV w v E1) rfl rfl rfl Try.func44 (by nofun) (by decide) #[.agg #[.string s, .slice a1 P.hs.length m1, .slice a2 P.md.length m2, .slice a3 n3 m3, .slice a4 n4 m4, .slice a5 n5 m5, .slice a6 n6 m6, .slice a7 n7 m7, .slice a8 P.dp.length m8], .agg #[.slice b0 E.va.length d0, .slice b1 E.fi.length d1, .slice b2 E.me.length d2, .slice b3 E.pl.length d3], .agg #[.int .i64 a, .int .i64 b], .int .u32 x] rfl (fun w hx _ => by refine (HS2.out w ((grows (a := W) (b := w2)).trans hx)).mono ?_; rintro e w9 ⟨u9, he, hx9, hr9⟩; exact ⟨u9, he, hx9, hr9⟩) ?_
      intro v23 wq23 _ _ _
      simp only [Act.put, List.setIfInBounds_toArray, List.set_cons_succ, List.set_cons_zero]
      refine Rel.callG (fun v _ => v = .bool true) rfl rfl rfl Try.func36 (by nofun) (by decide) #[v16, v23] rfl (fun w hx hf => by have e1 := (hf 16 (by kernel_rfl)).1.2 rfl; have e2 := (hf 23 (by kernel_rfl)).2 rfl; have h := reqV e1 e2; rw [En.eq_self] at h; refine h.mono ?_; rintro e w9 ⟨he, hx9⟩; exact ⟨_, he, hx9, rfl⟩) ?_
      intro v24 wq24 _ _ r24
      subst r24
      simp only [Act.put, List.setIfInBounds_toArray, List.set_cons_succ, List.set_cons_zero]
      refine Rel.chunk 6 rfl rfl rfl ?_
      simp only [List.take_succ_cons, List.take_zero, List.drop_succ_cons, List.drop_zero, Nat.reduceAdd]
      repeat (go_big_quiet_step (fail))
      refine wpQuiet_nil ?_
      refine Rel.callG (fun v w => EnvV w v E2) rfl rfl rfl Try.func45 (by nofun) (by decide) #[.agg #[.string s, .slice a1 P.hs.length m1, .slice a2 P.md.length m2, .slice a3 n3 m3, .slice a4 n4 m4, .slice a5 n5 m5, .slice a6 n6 m6, .slice a7 n7 m7, .slice a8 P.dp.length m8], .agg #[.slice b0 E.va.length d0, .slice b1 E.fi.length d1, .slice b2 E.me.length d2, .slice b3 E.pl.length d3], .int .i64 c] rfl (fun w hx _ => by refine (HA1.out w ((grows (a := W) (b := w2)).trans hx)).mono ?_; rintro e w9 ⟨u9, he, hx9, hr9⟩; exact ⟨u9, he, hx9, hr9⟩) ?_
      intro v31 wq31 _ _ _
      simp only [Act.put, List.setIfInBounds_toArray, List.set_cons_succ, List.set_cons_zero]
      refine Rel.chunk 4 rfl rfl rfl ?_
      simp only [List.take_succ_cons, List.take_zero, List.drop_succ_cons, List.drop_zero, Nat.reduceAdd]
      repeat (go_big_quiet_step (fail))
      refine wpQuiet_nil ?_
      refine Rel.callG (fun v w => EnvV w v E2) rfl rfl rfl Try.func46 (by nofun) (by decide) #[.agg #[.string s, .slice a1 P.hs.length m1, .slice a2 P.md.length m2, .slice a3 n3 m3, .slice a4 n4 m4, .slice a5 n5 m5, .slice a6 n6 m6, .slice a7 n7 m7, .slice a8 P.dp.length m8], .agg #[.slice b0 E.va.length d0, .slice b1 E.fi.length d1, .slice b2 E.me.length d2, .slice b3 E.pl.length d3], .int .i64 c] rfl (fun w hx _ => by refine (HA2.out w ((grows (a := W) (b := w2)).trans hx)).mono ?_; rintro e w9 ⟨u9, he, hx9, hr9⟩; exact ⟨u9, he, hx9, hr9⟩) ?_
      intro v36 wq36 _ _ _
      simp only [Act.put, List.setIfInBounds_toArray, List.set_cons_succ, List.set_cons_zero]
      refine Rel.callG (fun v _ => v = .bool true) rfl rfl rfl Try.func36 (by nofun) (by decide) #[v31, v36] rfl (fun w hx hf => by have e1 := (hf 31 (by kernel_rfl)).1.2 rfl; have e2 := (hf 36 (by kernel_rfl)).2 rfl; have h := reqV e1 e2; rw [En.eq_self] at h; refine h.mono ?_; rintro e w9 ⟨he, hx9⟩; exact ⟨_, he, hx9, rfl⟩) ?_
      intro v37 wq37 _ _ r37
      subst r37
      simp only [Act.put, List.setIfInBounds_toArray, List.set_cons_succ, List.set_cons_zero]
      refine Rel.chunk 6 rfl rfl rfl ?_
      simp only [List.take_succ_cons, List.take_zero, List.drop_succ_cons, List.drop_zero, Nat.reduceAdd]
      repeat (go_big_quiet_step (fail))
      refine wpQuiet_nil ?_
      refine Rel.callG (fun v w => EnvV w v E3) rfl rfl rfl Try.func47 (by nofun) (by decide) #[.agg #[.string s, .slice a1 P.hs.length m1, .slice a2 P.md.length m2, .slice a3 n3 m3, .slice a4 n4 m4, .slice a5 n5 m5, .slice a6 n6 m6, .slice a7 n7 m7, .slice a8 P.dp.length m8], .agg #[.slice b0 E.va.length d0, .slice b1 E.fi.length d1, .slice b2 E.me.length d2, .slice b3 E.pl.length d3], .int .i64 c] rfl (fun w hx _ => by refine (HR1.out w ((grows (a := W) (b := w2)).trans hx)).mono ?_; rintro e w9 ⟨u9, he, hx9, hr9⟩; exact ⟨u9, he, hx9, hr9⟩) ?_
      intro v44 wq44 _ _ _
      simp only [Act.put, List.setIfInBounds_toArray, List.set_cons_succ, List.set_cons_zero]
      refine Rel.chunk 4 rfl rfl rfl ?_
      simp only [List.take_succ_cons, List.take_zero, List.drop_succ_cons, List.drop_zero, Nat.reduceAdd]
      repeat (go_big_quiet_step (fail))
      refine wpQuiet_nil ?_
      refine Rel.callG (fun v w => EnvV w v E3) rfl rfl rfl Try.func48 (by nofun) (by decide) #[.agg #[.string s, .slice a1 P.hs.length m1, .slice a2 P.md.length m2, .slice a3 n3 m3, .slice a4 n4 m4, .slice a5 n5 m5, .slice a6 n6 m6, .slice a7 n7 m7, .slice a8 P.dp.length m8], .agg #[.slice b0 E.va.length d0, .slice b1 E.fi.length d1, .slice b2 E.me.length d2, .slice b3 E.pl.length d3], .int .i64 c] rfl (fun w hx _ => by refine (HR2.out w ((grows (a := W) (b := w2)).trans hx)).mono ?_; rintro e w9 ⟨u9, he, hx9, hr9⟩; exact ⟨u9, he, hx9, hr9⟩) ?_
      intro v49 wq49 _ _ _
      simp only [Act.put, List.setIfInBounds_toArray, List.set_cons_succ, List.set_cons_zero]
      refine Rel.callG (fun v _ => v = .bool true) rfl rfl rfl Try.func36 (by nofun) (by decide) #[v44, v49] rfl (fun w hx hf => by have e1 := (hf 44 (by kernel_rfl)).1.2 rfl; have e2 := (hf 49 (by kernel_rfl)).2 rfl; have h := reqV e1 e2; rw [En.eq_self] at h; refine h.mono ?_; rintro e w9 ⟨he, hx9⟩; exact ⟨_, he, hx9, rfl⟩) ?_
      intro v50 wq50 _ _ r50
      subst r50
      simp only [Act.put, List.setIfInBounds_toArray, List.set_cons_succ, List.set_cons_zero]
      refine Rel.chunk 2 rfl rfl rfl ?_
      simp only [List.take_succ_cons, List.take_zero, List.drop_succ_cons, List.drop_zero, Nat.reduceAdd]
      repeat (go_big_quiet_step (fail))
      refine wpQuiet_nil ?_
      refine Rel.callG (fun v _ => v = .bool true) rfl rfl rfl Try.func33 (by nofun) (by decide) #[] rfl (fun w hx _ => by refine (eworks_any w).mono ?_; rintro e w9 ⟨he, hx9⟩; exact ⟨_, he, hx9, rfl⟩) ?_
      intro v53 wq53 _ _ r53
      subst r53
      simp only [Act.put, List.setIfInBounds_toArray, List.set_cons_succ, List.set_cons_zero]
      refine Rel.chunk 2 rfl rfl rfl ?_
      simp only [List.take_succ_cons, List.take_zero, List.drop_succ_cons, List.drop_zero, Nat.reduceAdd]
      repeat (go_big_quiet_step (fail))
      refine wpQuiet_nil ?_
      refine Rel.fin ?_
      intro w8 hx8 _
      have s8 := Step.mk hx8
      go_wp2_with fail
      go_ret
      exact ⟨rfl, grows⟩
end Go.Proofs.Ytdgepbolfflidaa
