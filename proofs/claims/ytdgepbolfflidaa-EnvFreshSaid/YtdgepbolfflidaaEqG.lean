/- The environment: the law Equal, walked. No condition. -/
import Derived.Test.YtdgepbolfflidaaEqF
import Derived.Test.YtdgepbolfflidaaEqC
namespace Go.Proofs.Ytdgepbolfflidaa
open Go.RowKit

set_option maxRecDepth 100000 in
theorem rd_ref {W : World} {cs : List Value} (hl : cs.length = 2) (h : Rd Try.prog W 67 cs) : ∃ a b : Int, cs = [.int .i64 a, .int .i64 b] := by
  have z1 : Try.prog.cellsOf 3 = 1 := by kernel_rfl
  obtain ⟨_, hr⟩ := Rd.struct Try.underlying67 h
  match cs, hl with
  | [c0, c1], _ =>
    have r0 := hr 0 _ rfl
    have r1 := hr 1 _ rfl
    simp [z1] at r0 r1
    obtain ⟨s, e0, h0⟩ := Rd.int Try.underlying3 r0
    obtain ⟨a, e1, h1⟩ := Rd.int Try.underlying3 r1
    simp at e0 e1
    subst e0; subst e1
    exact ⟨s, a, rfl⟩
set_option maxRecDepth 100000 in
theorem rd_acc {W : World} {cs : List Value} (hl : cs.length = 4) (h : Rd Try.prog W 76 cs) : ∃ a b x c : Int, cs = [.int .i64 a, .int .i64 b, .int .u32 x, .int .i64 c] ∧ U32 x := by
  have z0 : Try.prog.cellsOf 39 = 1 := by kernel_rfl
  have z1 : Try.prog.cellsOf 3 = 1 := by kernel_rfl
  have z2 : Try.prog.cellsOf 67 = 2 := by kernel_rfl
  obtain ⟨_, hr⟩ := Rd.struct Try.underlying76 h
  match cs, hl with
  | [c0, c1, c2, c3], _ =>
    have r0 := hr 0 _ rfl
    have r1 := hr 1 _ rfl
    have r2 := hr 2 _ rfl
    simp [z0, z1, z2] at r0 r1 r2
    obtain ⟨a, b, e0⟩ := rd_ref (by rfl) r0
    obtain ⟨x, e1, h1⟩ := Rd.int Try.underlying39 r1
    obtain ⟨c, e2, h2⟩ := Rd.int Try.underlying3 r2
    simp at e0 e1 e2
    obtain ⟨e3, e4⟩ := e0
    subst e1; subst e2; subst e3; subst e4
    exact ⟨a, b, x, c, rfl, wf_u32r h1⟩
set_option maxRecDepth 100000 in
theorem ref_take {v : Value} {W : World} {base : Nat} {r : Reach} {H : Type} {enc : TypeId × Value → H} {d : DataW H} {ps : List MemPlace}
    (ok : Value.okWide Try.prog W r base 67 v) (h : DataW.Trod enc Try.prog W 0 (fun _ => true) true 67 v d ps) : ∃ a b : Int, v = .agg #[.int .i64 a, .int .i64 b] := by
  have hc : Try.prog.cellsOf 67 = 2 := by kernel_rfl
  obtain ⟨l, rfl, hl⟩ := ok_struct Try.underlying67 ok
  rw [hc] at hl
  have hrd := Rd.of h
  simp only [Value.cells, List.toList_toArray] at hrd
  obtain ⟨a, b, rfl⟩ := rd_ref hl hrd
  exact ⟨a, b, rfl⟩
set_option maxRecDepth 100000 in
theorem acc_take {v : Value} {W : World} {base : Nat} {r : Reach} {H : Type} {enc : TypeId × Value → H} {d : DataW H} {ps : List MemPlace}
    (ok : Value.okWide Try.prog W r base 76 v) (h : DataW.Trod enc Try.prog W 0 (fun _ => true) true 76 v d ps) : ∃ a b x c : Int, v = .agg #[.int .i64 a, .int .i64 b, .int .u32 x, .int .i64 c] ∧ U32 x := by
  have hc : Try.prog.cellsOf 76 = 4 := by kernel_rfl
  obtain ⟨l, rfl, hl⟩ := ok_struct Try.underlying76 ok
  rw [hc] at hl
  have hrd := Rd.of h
  simp only [Value.cells, List.toList_toArray] at hrd
  obtain ⟨a, b, x, c, rfl, hx⟩ := rd_acc hl hrd
  exact ⟨a, b, x, c, rfl, hx⟩
namespace En
theorem getD_rep {n j : Nat} : (List.replicate n (0 : Int)).getD j 0 = 0 := by
  rw [List.getD_eq_getElem?_getD, List.getElem?_replicate]; split <;> rfl
theorem fit_rep {P : Pg.Prog} {h : Int} {n : Nat} : Pg.fitB P h (List.replicate n 0) = true :=
  Pg.all_yes fun j _ => by rw [getD_rep]; exact decide_eq_true (Bv.mask_bd _).1
theorem zero_rep {n : Nat} : Pg.zeroB (List.replicate n 0) = true := Pg.all_yes fun j _ => by rw [getD_rep]; rfl
theorem newF_getD {P : Pg.Prog} {k : Nat} (h : k < (newF P).length) : (newF P).getD k [] = List.replicate (P.hs.getD k (⟨#[]⟩, [])).2.length 0 := by
  rw [newF_len] at h
  unfold newF
  rw [List.getD_eq_getElem?_getD, List.getD_eq_getElem?_getD, List.getElem?_map, List.getElem?_eq_getElem h]; rfl
theorem chk_new (P : Pg.Prog) : Pg.chkE P (new P) = 0 := by
  refine Pg.chk_ok ?_ fit_rep (Pg.all_yes fun h hh => ?_) (Pg.all_yes fun h hh => ?_)
  · unfold Pg.shB
    simp only [Bool.and_eq_true]
    refine ⟨⟨⟨?_, ?_⟩, ?_⟩, Pg.all_yes fun j hj => ?_⟩
    · simp [new]
    · exact decide_eq_true (newF_len P)
    · simp [new]
    · show decide (((newF P).getD j []).length = _) = true
      rw [newF_getD hj]; simp
  · show Pg.fitB P h ((newF P).getD h []) = true
    rw [newF_getD hh]; exact fit_rep
  · show ((new P).va.getD h false || Pg.zeroB ((newF P).getD h [])) = true
    rw [newF_getD hh, zero_rep, Bool.or_true]
end En
set_option maxRecDepth 8000 in
set_option maxHeartbeats 4000000 in
theorem envEqual_walk (v0 v1 : Value) (W : World) {b0 b1 : Nat} {r0 r1 : Reach} {H : Type} {enc : TypeId × Value → H} {d0 d1 : DataW H} {p0 p1 : List MemPlace}
    (ok0 : Value.okWide Try.prog W r0 b0 65 v0) (h0 : DataW.Trod enc Try.prog W 0 (fun _ => true) true 65 v0 d0 p0)
    (ok1 : Value.okWide Try.prog W r1 b1 65 v1) (h1 : DataW.Trod enc Try.prog W 0 (fun _ => true) true 65 v1 d1 p1) :
    Calls Try.prog 9 #[v0, v1] W (Rets W (.bool true)) := by
  obtain ⟨ea, A, rfl, ha⟩ := env_take ok0 h0
  obtain ⟨eb, B, rfl, hb⟩ := env_take ok1 h1
  clear ok0 h0 ok1 h1 d0 d1
  have hA : EnvV W ea.val A := ⟨ea, rfl, ha⟩
  have hB : EnvV W eb.val B := ⟨eb, rfl, hb⟩
  have hla := fun w (hx : Ext W w) => long_any (ha.ext hx)
  have hlb := fun w (hx : Ext W w) => long_any (hb.ext hx)
  obtain ⟨c0, c1, c2, c3, f0, f1, f2, f3, hg⟩ := ha.form
  obtain ⟨rfl, _, _, _, _, _, _, _, _⟩ := hg
  obtain ⟨g0, g1, g2, g3, k0, k1, k2, k3, hg⟩ := hb.form
  obtain ⟨rfl, _, _, _, _, _, _, _, _⟩ := hg
  dsimp only [Pg.EV.val] at hA hB hla hlb ⊢
  obtain ⟨ta, hta⟩ : ∃ t, t = !En.okE A := ⟨_, rfl⟩
  obtain ⟨tb, htb⟩ : ∃ t, t = !En.okE B := ⟨_, rfl⟩
  rw [← hta] at hla
  rw [← htb] at hlb
  have HLA := Lib.hid hla
  have HLB := Lib.hid hlb
  have bx := alloc_heap W (.cells #[.slice c0 A.va.length f0, .slice c1 A.fi.length f1, .slice c2 A.me.length f2, .slice c3 A.pl.length f3] 65)
  have ka0 := alw (cell_of (o := 0) bx)
  have ka1 := alw (cell_of (o := 1) bx)
  have ka2 := alw (cell_of (o := 2) bx)
  have ka3 := alw (cell_of (o := 3) bx)
  clear bx
  have bx := alloc_heap (W.alloc (.cells #[.slice c0 A.va.length f0, .slice c1 A.fi.length f1, .slice c2 A.me.length f2, .slice c3 A.pl.length f3] 65)) (.cells #[.slice g0 B.va.length k0, .slice g1 B.fi.length k1, .slice g2 B.me.length k2, .slice g3 B.pl.length k3] 65)
  rw [World.size_alloc] at bx
  have kb0 := alw (cell_of (o := 0) bx)
  have kb1 := alw (cell_of (o := 1) bx)
  have kb2 := alw (cell_of (o := 2) bx)
  have kb3 := alw (cell_of (o := 3) bx)
  clear bx
  clear ha hb hla hlb
  cases ta with
  | true =>
    clear hta htb hA hB
    go_enter Try.func9, Try.ntmps9
    go_wp2_with fail
    refine (HLA.out _ grows).mono ?_
    rintro e w1 ⟨rfl, xw1⟩
    have sw1 := Step.mk xw1
    go_wp2_with fail
    refine (eworks_any _).mono ?_
    rintro e w5 ⟨rfl, x5⟩
    have s5 := Step.mk x5
    go_wp2_with fail
    go_ret
    exact ⟨rfl, grows⟩
  | false =>
    cases tb with
    | true =>
      clear hta htb hA hB
      go_enter Try.func9, Try.ntmps9
      go_wp2_with fail
      refine (HLA.out _ grows).mono ?_
      rintro e w1 ⟨rfl, xw1⟩
      have sw1 := Step.mk xw1
      go_wp2_with fail
      refine (HLB.out _ grows).mono ?_
      rintro e w2 ⟨rfl, xw2⟩
      have sw2 := Step.mk xw2
      go_wp2_with fail
      refine (eworks_any _).mono ?_
      rintro e w5 ⟨rfl, x5⟩
      have s5 := Step.mk x5
      go_wp2_with fail
      go_ret
      exact ⟨rfl, grows⟩
    | false =>
      have hca := En.okE_cap (E := A) (by simpa using hta.symm)
      obtain ⟨q, hq⟩ : ∃ q, q = En.eqB A B := ⟨_, rfl⟩
      have HE1 : Hid (∀ w, Ext W w → Calls Try.prog 51 #[.agg #[.slice c0 A.va.length f0, .slice c1 A.fi.length f1, .slice c2 A.me.length f2, .slice c3 A.pl.length f3], .agg #[.slice g0 B.va.length k0, .slice g1 B.fi.length k1, .slice g2 B.me.length k2, .slice g3 B.pl.length k3]] w (Rets w (.bool q))) := Lib.hid (fun w hx => by have h := eqV (hA.ext hx) (hB.ext hx); rw [← hq] at h; exact h)
      have HE2 : Hid (∀ w, Ext W w → Calls Try.prog 36 #[.agg #[.slice c0 A.va.length f0, .slice c1 A.fi.length f1, .slice c2 A.me.length f2, .slice c3 A.pl.length f3], .agg #[.slice g0 B.va.length k0, .slice g1 B.fi.length k1, .slice g2 B.me.length k2, .slice g3 B.pl.length k3]] w (Rets w (.bool q))) := Lib.hid (fun w hx => by have h := reqV (hA.ext hx) (hB.ext hx); rw [← hq] at h; exact h)
      have HCL : Hid (∀ w, Ext W w → Calls Try.prog 52 #[.agg #[.slice c0 A.va.length f0, .slice c1 A.fi.length f1, .slice c2 A.me.length f2, .slice c3 A.pl.length f3]] w (EnvR w A)) := Lib.hid (fun w hx => by have h := cloneV (hA.ext hx) hca; exact h)
      have HA := Lib.hid hA
      clear hta htb hA hB hq hca
      go_enter Try.func9, Try.ntmps9
      go_wp2_with fail
      refine (HLA.out _ grows).mono ?_
      rintro e w1 ⟨rfl, xw1⟩
      have sw1 := Step.mk xw1
      go_wp2_with fail
      refine (HLB.out _ grows).mono ?_
      rintro e w2 ⟨rfl, xw2⟩
      have sw2 := Step.mk xw2
      go_wp2_with fail
      refine Rel.region (W := w2) (Rel.tab [(2, fun v _ => v = .bool q), (5, fun v _ => v = .bool q), (10, fun v w => EnvV w v A), (11, fun v _ => v = .bool true), (15, fun v w => EnvV w v A), (17, fun v _ => v = .bool true), (20, fun v _ => v = .bool true)]) (Rel.tab_lasts (by intro p hp v w w' hr hx; simp only [List.mem_cons, List.not_mem_nil, or_false] at hp; rcases hp with rfl | rfl | rfl | rfl | rfl | rfl | rfl; (· exact hr); (· exact hr); (· exact EnvV.ext hr hx); (· exact hr); (· exact EnvV.ext hr hx); (· exact hr); (· exact hr))) (by kernel_rfl) (by kernel_rfl) (Ext.refl _) ?_
      refine Rel.chunk 2 rfl rfl rfl ?_
      simp only [List.take_succ_cons, List.take_zero, List.drop_succ_cons, List.drop_zero, Nat.reduceAdd]
      repeat (go_big_quiet_step (fail))
      refine wpQuiet_nil ?_
      refine Rel.callG (fun v _ => v = .bool q) rfl rfl rfl Try.func51 (by nofun) (by decide) #[.agg #[.slice c0 A.va.length f0, .slice c1 A.fi.length f1, .slice c2 A.me.length f2, .slice c3 A.pl.length f3], .agg #[.slice g0 B.va.length k0, .slice g1 B.fi.length k1, .slice g2 B.me.length k2, .slice g3 B.pl.length k3]] rfl (fun w hx _ => by refine (HE1.out w ((grows (a := W) (b := w2)).trans hx)).mono ?_; rintro e w9 ⟨he, hx9⟩; exact ⟨_, he, hx9, rfl⟩) ?_
      intro v2 wq2 _ _ r2
      subst r2
      simp only [Act.put, List.setIfInBounds_toArray, List.set_cons_succ, List.set_cons_zero]
      refine Rel.chunk 2 rfl rfl rfl ?_
      simp only [List.take_succ_cons, List.take_zero, List.drop_succ_cons, List.drop_zero, Nat.reduceAdd]
      repeat (go_big_quiet_step (fail))
      refine wpQuiet_nil ?_
      refine Rel.callG (fun v _ => v = .bool q) rfl rfl rfl Try.func36 (by nofun) (by decide) #[.agg #[.slice c0 A.va.length f0, .slice c1 A.fi.length f1, .slice c2 A.me.length f2, .slice c3 A.pl.length f3], .agg #[.slice g0 B.va.length k0, .slice g1 B.fi.length k1, .slice g2 B.me.length k2, .slice g3 B.pl.length k3]] rfl (fun w hx _ => by refine (HE2.out w ((grows (a := W) (b := w2)).trans hx)).mono ?_; rintro e w9 ⟨he, hx9⟩; exact ⟨_, he, hx9, rfl⟩) ?_
      intro v5 wq5 _ _ r5
      subst r5
      simp only [Act.put, List.setIfInBounds_toArray, List.set_cons_succ, List.set_cons_zero]
      refine Rel.chunk 4 rfl rfl rfl ?_
      simp only [List.take_succ_cons, List.take_zero, List.drop_succ_cons, List.drop_zero, Nat.reduceAdd]
      repeat (go_big_quiet_step (fail))
      refine wpQuiet_nil ?_
      refine Rel.callG (fun v w => EnvV w v A) rfl rfl rfl Try.func52 (by nofun) (by decide) #[.agg #[.slice c0 A.va.length f0, .slice c1 A.fi.length f1, .slice c2 A.me.length f2, .slice c3 A.pl.length f3]] rfl (fun w hx _ => by refine (HCL.out w ((grows (a := W) (b := w2)).trans hx)).mono ?_; rintro e w9 ⟨u9, he, hx9, hr9⟩; exact ⟨u9, he, hx9, hr9⟩) ?_
      intro v10 wq10 _ _ _
      simp only [Act.put, List.setIfInBounds_toArray, List.set_cons_succ, List.set_cons_zero]
      refine Rel.callG (fun v _ => v = .bool true) rfl rfl rfl Try.func51 (by nofun) (by decide) #[.agg #[.slice c0 A.va.length f0, .slice c1 A.fi.length f1, .slice c2 A.me.length f2, .slice c3 A.pl.length f3], v10] rfl (fun w hx hf => by have e1 := (hf 10 (by kernel_rfl)).2 rfl; have h := eqV (HA.out.ext ((grows (a := W) (b := w2)).trans hx)) e1; rw [En.eq_self] at h; refine h.mono ?_; rintro e w9 ⟨he, hx9⟩; exact ⟨_, he, hx9, rfl⟩) ?_
      intro v11 wq11 _ _ r11
      subst r11
      simp only [Act.put, List.setIfInBounds_toArray, List.set_cons_succ, List.set_cons_zero]
      refine Rel.chunk 3 rfl rfl rfl ?_
      simp only [List.take_succ_cons, List.take_zero, List.drop_succ_cons, List.drop_zero, Nat.reduceAdd]
      repeat (go_big_quiet_step (fail))
      refine wpQuiet_nil ?_
      refine Rel.callG (fun v w => EnvV w v A) rfl rfl rfl Try.func52 (by nofun) (by decide) #[.agg #[.slice c0 A.va.length f0, .slice c1 A.fi.length f1, .slice c2 A.me.length f2, .slice c3 A.pl.length f3]] rfl (fun w hx _ => by refine (HCL.out w ((grows (a := W) (b := w2)).trans hx)).mono ?_; rintro e w9 ⟨u9, he, hx9, hr9⟩; exact ⟨u9, he, hx9, hr9⟩) ?_
      intro v15 wq15 _ _ _
      simp only [Act.put, List.setIfInBounds_toArray, List.set_cons_succ, List.set_cons_zero]
      refine Rel.chunk 1 rfl rfl rfl ?_
      simp only [List.take_succ_cons, List.take_zero, List.drop_succ_cons, List.drop_zero, Nat.reduceAdd]
      repeat (go_big_quiet_step (fail))
      refine wpQuiet_nil ?_
      refine Rel.callG (fun v _ => v = .bool true) rfl rfl rfl Try.func36 (by nofun) (by decide) #[v15, .agg #[.slice c0 A.va.length f0, .slice c1 A.fi.length f1, .slice c2 A.me.length f2, .slice c3 A.pl.length f3]] rfl (fun w hx hf => by have e1 := (hf 15 (by kernel_rfl)).2 rfl; have h := reqV e1 (HA.out.ext ((grows (a := W) (b := w2)).trans hx)); rw [En.eq_self] at h; refine h.mono ?_; rintro e w9 ⟨he, hx9⟩; exact ⟨_, he, hx9, rfl⟩) ?_
      intro v17 wq17 _ _ r17
      subst r17
      simp only [Act.put, List.setIfInBounds_toArray, List.set_cons_succ, List.set_cons_zero]
      refine Rel.chunk 2 rfl rfl rfl ?_
      simp only [List.take_succ_cons, List.take_zero, List.drop_succ_cons, List.drop_zero, Nat.reduceAdd]
      repeat (go_big_quiet_step (fail))
      refine wpQuiet_nil ?_
      refine Rel.callG (fun v _ => v = .bool true) rfl rfl rfl Try.func33 (by nofun) (by decide) #[] rfl (fun w hx _ => by refine (eworks_any w).mono ?_; rintro e w9 ⟨he, hx9⟩; exact ⟨_, he, hx9, rfl⟩) ?_
      intro v20 wq20 _ _ r20
      subst r20
      simp only [Act.put, List.setIfInBounds_toArray, List.set_cons_succ, List.set_cons_zero]
      refine Rel.chunk 2 rfl rfl rfl ?_
      simp only [List.take_succ_cons, List.take_zero, List.drop_succ_cons, List.drop_zero, Nat.reduceAdd]
      repeat (go_big_quiet_step (fail))
      refine wpQuiet_nil ?_
      refine Rel.fin ?_
      intro w8 hx8 _
      have s8 := Step.mk hx8
      go_wp2_with fail
      go_ret
      exact ⟨rfl, grows⟩
end Go.Proofs.Ytdgepbolfflidaa
