/- The environment: the law Runs, walked. No condition. -/
import Derived.Test.YtdgepbolfflidaaEqJ
import Derived.Test.YtdgepbolfflidaaEqI
namespace Go.Proofs.Ytdgepbolfflidaa
open Go.RowKit

structure En.Act where
  d : Int
  a : Int
  b : Int
  x : Int
  c : Int
def En.ActR (_ : World) (cs : List Value) (t : En.Act) : Prop := cs = [.int .i64 t.d, .int .i64 t.a, .int .i64 t.b, .int .u32 t.x, .int .i64 t.c] ∧ U32 t.x
set_option maxRecDepth 100000 in
theorem rd_act {W : World} {cs : List Value} (hl : cs.length = 5) (h : Rd Try.prog W 83 cs) : ∃ t, En.ActR W cs t := by
  have z1 : Try.prog.cellsOf 3 = 1 := by kernel_rfl
  have z2 : Try.prog.cellsOf 76 = 4 := by kernel_rfl
  obtain ⟨_, hr⟩ := Rd.struct Try.underlying83 h
  match cs, hl with
  | [c0, c1, c2, c3, c4], _ =>
    have r0 := hr 0 _ rfl
    have r1 := hr 1 _ rfl
    simp [z1, z2] at r0 r1
    obtain ⟨d, e0, _⟩ := Rd.int Try.underlying3 r0
    obtain ⟨a, b, x, c, e1, hx⟩ := rd_acc (by rfl) r1
    simp at e0 e1
    obtain ⟨rfl, rfl, rfl, rfl⟩ := e1
    subst e0
    exact ⟨⟨d, a, b, x, c⟩, rfl, hx⟩
set_option maxRecDepth 100000 in
theorem acts_take {v : Value} {W : World} {H : Type} {enc : TypeId × Value → H} {d : DataW H} {ps : List MemPlace} {base : Nat} {r : Reach} (ok : Value.okWide Try.prog W r base 81 v)
    (h : DataW.Trod enc Try.prog W 0 (fun _ => true) true 81 v d ps) : ∃ l, Rows W 5 En.ActR v l := by
  obtain ⟨a, n, c, rfl⟩ := Go.WideShapes.okWide_slice Try.underlying81 ok
  have hrd := Rd.of h
  simp only [Value.cells, List.toList_toArray] at hrd
  obtain ⟨u, l, h1, h2⟩ := Rd.rows (R := En.ActR) Try.underlying81 (show Try.prog.cellsOf 83 = 5 by kernel_rfl) (by decide) (fun row hl hr => rd_act hl hr) hrd
  simp at h1
  subst h1
  exact ⟨l, h2⟩
/-- the box g holds the environment v -/
def EBox (w : World) (g : Nat) (v : Value) : Prop := ∃ e : Pg.EV, v = e.val ∧ w.heap[g]? = some (.cells #[e.c0, e.c1, e.c2, e.c3] 65 (0, 0))
theorem EBox.ext {w w' : World} {g : Nat} {v : Value} (h : EBox w g v) (hx : Ext w w') : EBox w' g v := by
  obtain ⟨e, h1, h2⟩ := h; exact ⟨e, h1, hx.heap h2⟩
/-- where the runs stand: both boxes hold the environment -/
def RunAt (W1 : World) (g5 g6 : Nat) (E : Pg.Env) (w : World) : Prop := ∃ (v u : Value), Ext W1 w ∧ EBox w g5 v ∧ EBox w g6 u ∧ EnvO w v E ∧ EnvO w u E
theorem RunAt.ext {W1 w w' : World} {g5 g6 : Nat} {E : Pg.Env} (h : RunAt W1 g5 g6 E w) (hx : Ext w w') : RunAt W1 g5 g6 E w' := by
  obtain ⟨v, u, h1, h2, h3, h4, h5⟩ := h; exact ⟨v, u, h1.trans hx, h2.ext hx, h3.ext hx, h4.ext hx, h5.ext hx⟩
theorem EnvO.at {w : World} {e : Pg.EV} {E : Pg.Env} (h : EnvO w e.val E) : ∃ vs, OwnE 0 w e vs E := by
  obtain ⟨e', vs, h1, h2⟩ := h
  obtain ⟨c0, c1, c2, c3⟩ := e
  obtain ⟨k0, k1, k2, k3⟩ := e'
  simp only [Pg.EV.val, Value.agg.injEq, Array.mk.injEq, List.cons.injEq, and_true] at h1
  obtain ⟨rfl, rfl, rfl, rfl⟩ := h1
  exact ⟨vs, h2⟩
/-- both boxes written, the one behind the other -/
theorem RunAt.stores {W1 w3 wa wb : World} {g5 g6 : Nat} {E : Pg.Env} {e5 e6 : Pg.EV} {o5 o6 : Array Value} (hx : Ext W1 w3) (h5 : W1.heap.size ≤ g5) (h6 : W1.heap.size ≤ g6) (f5 : w3.heap[g5]? = some (.cells o5 65 (0, 0))) (f6 : wa.heap[g6]? = some (.cells o6 65 (0, 0)))
    (r5 : EnvO w3 e5.val E) (r6 : EnvO w3 e6.val E) (ma : Mod (· = g5) w3 wa) (ha : wa.heap[g5]? = some (.cells #[e5.c0, e5.c1, e5.c2, e5.c3] 65 (0, 0))) (mb : Mod (· = g6) wa wb) (hb : wb.heap[g6]? = some (.cells #[e6.c0, e6.c1, e6.c2, e6.c3] 65 (0, 0))) :
    RunAt W1 g5 g6 E wb := by
  have oa : EnvO wb e5.val E := (r5.box ma f5).box mb f6
  have ob : EnvO wb e6.val E := (r6.box ma f5).box mb f6
  have hext : Ext W1 wb := Ext.mod (Ext.mod hx ma (fun k hk => by subst hk; exact h5)) mb (fun k hk => by subst hk; exact h6)
  by_cases h : g5 = g6
  · subst h
    exact ⟨_, _, hext, ⟨e6, rfl, hb⟩, ⟨e6, rfl, hb⟩, ob, ob⟩
  · exact ⟨_, _, hext, ⟨e5, rfl, mb.heap ha h⟩, ⟨e6, rfl, hb⟩, oa, ob⟩
theorem box_old {w3 wa : World} {g5 g6 : Nat} {c0 c1 c2 c3 : Value} {o6 : Array Value} (f6 : w3.heap[g6]? = some (.cells o6 65 (0, 0))) (hs : o6.size = 4) (ma : Mod (· = g5) w3 wa) (ha : wa.heap[g5]? = some (.cells #[c0, c1, c2, c3] 65 (0, 0))) :
    ∃ o, wa.heap[g6]? = some (.cells o 65 (0, 0)) ∧ o.size = 4 := by
  by_cases h : g6 = g5
  · subst h; exact ⟨_, ha, rfl⟩
  · exact ⟨_, ma.heap f6 h, hs⟩
/-- what the runs keep -/
def RunInv (P : Pg.Prog) (W1 : World) (g5 g6 : Nat) (w : World) : Prop := ∃ E, RunAt W1 g5 g6 E w ∧ Pg.chkE P E = 0 ∧ E.pl = []
theorem EnvP.o {W W' : World} {E : Pg.Env} {e : Ending} (h : EnvP W E e W') : ∃ v, e = .returned v ∧ Ext W W' ∧ EnvO W' v E := by
  obtain ⟨v, vs, h1, h2, h3⟩ := h; exact ⟨_, h1, h2, v, vs, rfl, h3.base (Nat.zero_le _)⟩
set_option maxRecDepth 8000 in
set_option maxHeartbeats 16000000 in
theorem envRuns_walk (v0 v1 : Value) (W : World) {b0 b1 : Nat} {r0 r1 : Reach} {H : Type} {enc : TypeId × Value → H} {d0 d1 : DataW H} {p0 p1 : List MemPlace}
    (ok0 : Value.okWide Try.prog W r0 b0 61 v0) (h0 : DataW.Trod enc Try.prog W 0 (fun _ => true) true 61 v0 d0 p0)
    (ok1 : Value.okWide Try.prog W r1 b1 81 v1) (h1 : DataW.Trod enc Try.prog W 0 (fun _ => true) true 81 v1 d1 p1) :
    Calls Try.prog 7 #[v0, v1] W (Rets W (.bool true)) := by
  obtain ⟨p, P, rfl, hp, _⟩ := prog_take ok0 h0
  obtain ⟨ac, hac⟩ := acts_take ok1 h1
  clear ok0 h0 ok1 h1 d0 d1
  obtain ⟨s, a1, a2, a3, a4, a5, a6, a7, a8, m1, m2, n3, m3, n4, m4, n5, m5, n6, m6, n7, m7, m8, hf⟩ := hp.form
  obtain ⟨rfl, _, _, _, _, _, _⟩ := hf
  obtain ⟨oa, oc, rfl, _, _⟩ := hac.slice
  dsimp only [Pg.PV.val] at hp ⊢
  obtain ⟨t0, ht0⟩ : ∃ t, t = !En.okP P := ⟨_, rfl⟩
  have HTL : Hid (∀ w, Ext W w → Calls Try.prog 31 #[.agg #[.string s, .slice a1 P.hs.length m1, .slice a2 P.md.length m2, .slice a3 n3 m3, .slice a4 n4 m4, .slice a5 n5 m5, .slice a6 n6 m6, .slice a7 n7 m7, .slice a8 P.dp.length m8]] w (Rets w (.bool t0))) := Lib.hid (fun w hx => by have h := toolarge_any (hp.ext hx); rw [← ht0] at h; exact h)
  have bx := alloc_heap W (.cells #[.string s, .slice a1 P.hs.length m1, .slice a2 P.md.length m2, .slice a3 n3 m3, .slice a4 n4 m4, .slice a5 n5 m5, .slice a6 n6 m6, .slice a7 n7 m7, .slice a8 P.dp.length m8] 61)
  have pc0 := alw (cell_of (o := 0) bx)
  have pc1 := alw (cell_of (o := 1) bx)
  have pc2 := alw (cell_of (o := 2) bx)
  have pc3 := alw (cell_of (o := 3) bx)
  have pc4 := alw (cell_of (o := 4) bx)
  have pc5 := alw (cell_of (o := 5) bx)
  have pc6 := alw (cell_of (o := 6) bx)
  have pc7 := alw (cell_of (o := 7) bx)
  have pc8 := alw (cell_of (o := 8) bx)
  clear bx
  cases t0 with
  | true =>
    clear ht0 hp hac
    go_enter Try.func7, Try.ntmps7
    go_wp2_with fail
    refine (HTL.out _ grows).mono ?_
    rintro e w1 ⟨rfl, xw1⟩
    have sw1 := Step.mk xw1
    go_wp2_with fail
    refine (eworks_any _).mono ?_
    rintro e w5 ⟨rfl, x5⟩
    have s5 := Step.mk x5
    go_wp2_with fail
    go_ret
    exact ⟨rfl, grows⟩
  | false =>
    have hcp := En.okP_cap (P := P) (by simpa using ht0.symm)
    by_cases hle : ac.length ≤ 60
    · have hd : decide ((60 : Int) < (ac.length : Int)) = false := decide_eq_false (by omega)
      clear ht0
      have HN1 : Hid (∀ w, Ext W w → Calls Try.prog 37 #[.agg #[.string s, .slice a1 P.hs.length m1, .slice a2 P.md.length m2, .slice a3 n3 m3, .slice a4 n4 m4, .slice a5 n5 m5, .slice a6 n6 m6, .slice a7 n7 m7, .slice a8 P.dp.length m8]] w (EnvP w (En.new P))) := Lib.hid (fun w hx => by have h := enew_any (hp.ext hx) hcp; exact h)
      have HN2 : Hid (∀ w, Ext W w → Calls Try.prog 38 #[.agg #[.string s, .slice a1 P.hs.length m1, .slice a2 P.md.length m2, .slice a3 n3 m3, .slice a4 n4 m4, .slice a5 n5 m5, .slice a6 n6 m6, .slice a7 n7 m7, .slice a8 P.dp.length m8]] w (EnvP w (En.new P))) := Lib.hid (fun w hx => by have h := refenew_any (hp.ext hx) hcp; exact h)
      have HP := Lib.hid hp
      have HAC := Lib.hid hac
      have HCP := Lib.hid hcp
      clear hp hac hcp
      go_enter Try.func7, Try.ntmps7
      go_wp2_with fail
      refine (HTL.out _ grows).mono ?_
      rintro e w1 ⟨rfl, xw1⟩
      have sw1 := Step.mk xw1
      go_wp2_with fail
      refine Rel.region_tail (W := w1) 6 (Rel.tab [(1, fun v w => EnvO w v (En.new P)), (3, fun v w => EnvO w v (En.new P)), (4, fun v w => ∃ gz, v = .pointer (some ⟨gz, 0, none⟩) ∧ Rel.Fresh w1 gz (.cells #[.slice none 0 0, .slice none 0 0, .slice none 0 0, .slice none 0 0] 65) w), (5, fun v w => ∃ gz, v = .pointer (some ⟨gz, 0, none⟩) ∧ Rel.Fresh w1 gz (.cells #[.slice none 0 0, .slice none 0 0, .slice none 0 0, .slice none 0 0] 65) w)]) (Rel.tab_lasts (by intro p hp v w w' hr hx; simp only [List.mem_cons, List.not_mem_nil, or_false] at hp; rcases hp with rfl | rfl | rfl | rfl; (· exact EnvO.ext hr hx); (· exact EnvO.ext hr hx); (· obtain ⟨g, e1, e2⟩ := hr; exact ⟨g, e1, e2.ext hx⟩); (· obtain ⟨g, e1, e2⟩ := hr; exact ⟨g, e1, e2.ext hx⟩))) (by kernel_rfl) (by kernel_rfl) (Ext.refl _) ?_
      simp only [List.take_succ_cons, List.take_zero]
      refine Rel.chunkT 1 rfl rfl rfl ?_
      simp only [List.take_succ_cons, List.take_zero, List.drop_succ_cons, List.drop_zero, Nat.reduceAdd]
      repeat (go_big_quiet_step (fail))
      refine wpQuiet_nil ?_
      refine Rel.callG (fun v w => EnvO w v (En.new P)) rfl rfl rfl Try.func37 (by nofun) (by decide) #[.agg #[.string s, .slice a1 P.hs.length m1, .slice a2 P.md.length m2, .slice a3 n3 m3, .slice a4 n4 m4, .slice a5 n5 m5, .slice a6 n6 m6, .slice a7 n7 m7, .slice a8 P.dp.length m8]] rfl (fun w hx _ => by refine (HN1.out w ((grows (a := W) (b := w1)).trans hx)).mono ?_; intro e w9 hh9; exact hh9.o) ?_
      intro v1 wq1 _ _ _
      simp only [Act.put, List.setIfInBounds_toArray, List.set_cons_succ, List.set_cons_zero]
      refine Rel.chunkT 1 rfl rfl rfl ?_
      simp only [List.take_succ_cons, List.take_zero, List.drop_succ_cons, List.drop_zero, Nat.reduceAdd]
      repeat (go_big_quiet_step (fail))
      refine wpQuiet_nil ?_
      refine Rel.callG (fun v w => EnvO w v (En.new P)) rfl rfl rfl Try.func38 (by nofun) (by decide) #[.agg #[.string s, .slice a1 P.hs.length m1, .slice a2 P.md.length m2, .slice a3 n3 m3, .slice a4 n4 m4, .slice a5 n5 m5, .slice a6 n6 m6, .slice a7 n7 m7, .slice a8 P.dp.length m8]] rfl (fun w hx _ => by refine (HN2.out w ((grows (a := W) (b := w1)).trans hx)).mono ?_; intro e w9 hh9; exact hh9.o) ?_
      intro v3 wq3 _ _ _
      simp only [Act.put, List.setIfInBounds_toArray, List.set_cons_succ, List.set_cons_zero]
      refine Rel.fresh (fun g => .pointer (some ⟨g, 0, none⟩)) (.cells #[.slice none 0 0, .slice none 0 0, .slice none 0 0, .slice none 0 0] 65) rfl rfl rfl (fun w hx => by kernel_rfl) ?_
      intro g5 y5 _ _ _
      simp only [Act.put, List.setIfInBounds_toArray, List.set_cons_succ, List.set_cons_zero]
      refine Rel.fresh (fun g => .pointer (some ⟨g, 0, none⟩)) (.cells #[.slice none 0 0, .slice none 0 0, .slice none 0 0, .slice none 0 0] 65) rfl rfl rfl (fun w hx => by kernel_rfl) ?_
      intro g6 y6 _ k6 l6
      simp only [Act.put, List.setIfInBounds_toArray, List.set_cons_succ, List.set_cons_zero]
      refine Rel.fin ?_
      intro w3 x3 hf3
      obtain ⟨g5', e1, g5w, f5⟩ := (hf3 4).1.2 rfl
      simp only [Value.pointer.injEq, Option.some.injEq, Addr.mk.injEq, and_true] at e1
      subst e1
      obtain ⟨g6', e2, g6w, f6⟩ := (hf3 5).2 rfl
      simp only [Value.pointer.injEq, Option.some.injEq, Addr.mk.injEq, and_true] at e2
      subst e2
      have rr1 := (hf3 1).1.1.1.2 rfl
      have rr3 := (hf3 3).1.1.2 rfl
      have ra5 := rr1
      have rb5 := rr3
      have ra6 := ra5
      have rb6 := rb5
      obtain ⟨ev4, vs4, hv4, ho4⟩ := ra6
      obtain ⟨q40, q41, q42, q43, t40, t41, t42, t43, hg⟩ := ho4.isE.form
      obtain ⟨rfl, _, _, _, _, _, _, _, _⟩ := hg
      subst hv4
      clear ho4
      obtain ⟨ev5, vs5, hv5, ho5⟩ := rb6
      obtain ⟨q50, q51, q52, q53, t50, t51, t52, t53, hg⟩ := ho5.isE.form
      obtain ⟨rfl, _, _, _, _, _, _, _, _⟩ := hg
      subst hv5
      clear ho5
      have hfa := f5
      have hfb := f6
      clear hf3
      refine wpList_store_box rfl 65 (.tmp 5) (.tmp 18) rfl g5 #[.slice q40 (En.new P).va.length t40, .slice q41 (En.new P).fi.length t41, .slice q42 (En.new P).me.length t42, .slice q43 (En.new P).pl.length t43] rfl rfl 65 _ hfa (by kernel_rfl) rfl (by simp [Value.oneCell']) ?_
      intro wa ma ha
      obtain ⟨o6, hfo, ho6⟩ := box_old hfb rfl ma ha
      refine wpList_store_box rfl 65 (.tmp 6) (.tmp 20) rfl g6 #[.slice q50 (En.new P).va.length t50, .slice q51 (En.new P).fi.length t51, .slice q52 (En.new P).me.length t52, .slice q53 (En.new P).pl.length t53] rfl rfl 65 o6 hfo (by kernel_rfl) ho6 (by simp [Value.oneCell']) ?_
      intro wb mb hb
      have hrun := RunAt.stores (W1 := w1) (e5 := ⟨.slice q40 (En.new P).va.length t40, .slice q41 (En.new P).fi.length t41, .slice q42 (En.new P).me.length t42, .slice q43 (En.new P).pl.length t43⟩) (e6 := ⟨.slice q50 (En.new P).va.length t50, .slice q51 (En.new P).fi.length t51, .slice q52 (En.new P).me.length t52, .slice q53 (En.new P).pl.length t53⟩) x3 g5w g6w hfa hfo ra5 rb5 ma ha mb hb
      clear ra5 rb5 ma ha mb hb hfa hfb hfo ho6
      have sb0 : Step w1 wb := Step.mk (by obtain ⟨_, _, h, _⟩ := hrun; exact h)
      clear x3 rr1 rr3 f5 f6 k6 l6
      have HRN0 := Lib.hid hrun
      clear hrun
      go_wp2_with fail
      go_loopw [7] (fun i wr => ∃ k : Nat, k ≤ ac.length ∧ i = .int .i64 k ∧ Hid (RunInv P w1 g5 g6 wr)) (fun i _ => ac.length - (intOf i).toNat)
      case atStart => exact ⟨0, Nat.zero_le _, rfl, Lib.hid ⟨_, HRN0.out.ext grows, En.chk_new P, rfl⟩⟩
      case round =>
        obtain ⟨k, hk, rfl, HI⟩ := hrel
        obtain ⟨E, hat, hch, hpl⟩ := HI.out
        have hxr : Ext w1 wr := by obtain ⟨_, _, h, _⟩ := hat; exact h
        have sr := Step.mk hxr
        clear hxr
        by_cases hlt : k < ac.length
        · obtain ⟨⟨d, a, b, x, c⟩, hka⟩ : ∃ y, ac[k]? = some y := ⟨_, List.getElem?_eq_getElem (by omega)⟩
          obtain ⟨ab, ao, rfl, _, hcells⟩ := Rows.at HAC.out (by omega)
          obtain ⟨cs, _, ⟨rfl, x0, x1⟩, hcs⟩ := hcells k _ hka
          have y0 := alw (show W.cell? ⟨ab, ao + k * 5, none⟩ = _ from hcs 0 _ rfl)
          have y1 := alw (hcs 1 _ rfl)
          have y2 := alw (hcs 2 _ rfl)
          have y3 := alw (hcs 3 _ rfl)
          have y4 := alw (hcs 4 _ rfl)
          have HK := Lib.hid hch
          have HPL := Lib.hid hpl
          have HCE : Hid (En.CapE E) := Lib.hid (En.cap_chk HCP.out hch hpl)
          have bx := alloc_heap wr (.cells #[.int .i64 a, .int .i64 b, .int .u32 x, .int .i64 c] 76)
          have z0 := alw (cell_of (o := 0) bx)
          have z1 := alw (cell_of (o := 1) bx)
          have z2 := alw (cell_of (o := 2) bx)
          have z3 := alw (cell_of (o := 3) bx)
          clear bx hka hcells hcs hch hpl HI
          obtain ⟨v, u, xr, ⟨ev7, rfl, hb5⟩, ⟨ev8, rfl, hb6⟩, ov, ou⟩ := hat
          obtain ⟨vs7, ov7⟩ := ov.at
          obtain ⟨vs8, ou8⟩ := ou.at
          obtain ⟨q70, q71, q72, q73, t70, t71, t72, t73, hg⟩ := ov7.isE.form
          obtain ⟨rfl, _, _, _, _, _, _, _, _⟩ := hg
          obtain ⟨q80, q81, q82, q83, t80, t81, t82, t83, hg⟩ := ou8.isE.form
          obtain ⟨rfl, _, _, _, _, _, _, _, _⟩ := hg
          dsimp only [Pg.EV.val] at hb5 hb6
          have ka0 := alw (cell_of (o := 0) hb5)
          have ka1 := alw (cell_of (o := 1) hb5)
          have ka2 := alw (cell_of (o := 2) hb5)
          have ka3 := alw (cell_of (o := 3) hb5)
          have kb0 := alw (cell_of (o := 0) hb6)
          have kb1 := alw (cell_of (o := 1) hb6)
          have kb2 := alw (cell_of (o := 2) hb6)
          have kb3 := alw (cell_of (o := 3) hb6)
          have OV7 := Lib.hid ov7
          have OU8 := Lib.hid ou8
          have HB5 := Lib.hid hb5
          have HB6 := Lib.hid hb6
          have XR := Lib.hid xr
          clear ov ou ov7 ou8 hb5 hb6 xr
          by_cases d0 : d = 0
          · subst d0
            obtain ⟨E2, hE2⟩ : ∃ z, z = En.set P E a b x := ⟨_, rfl⟩
            have HK2 : Hid (Pg.chkE P E2 = 0) := Lib.hid (by rw [hE2]; exact En.chk_set HK.out a b x)
            have HP2 : Hid (E2.pl = []) := Lib.hid (by rw [hE2, En.set_pl]; exact HPL.out)
            have HX1 : Hid (∀ w, Ext wr w → Calls Try.prog 43 #[.agg #[.string s, .slice a1 P.hs.length m1, .slice a2 P.md.length m2, .slice a3 n3 m3, .slice a4 n4 m4, .slice a5 n5 m5, .slice a6 n6 m6, .slice a7 n7 m7, .slice a8 P.dp.length m8], .agg #[.slice q70 E.va.length t70, .slice q71 E.fi.length t71, .slice q72 E.me.length t72, .slice q73 E.pl.length t73], .agg #[.int .i64 a, .int .i64 b], .int .u32 x] w (EnvP w E2)) := Lib.hid (fun w hx => by have h := set_any (HP.out.ext ((grows (a := W) (b := wr)).trans hx)) ((OV7.out.ext hx).isE) HCE.out a b x x0 x1; rw [← hE2] at h; exact h)
            have HX2 : Hid (∀ w, Ext wr w → Calls Try.prog 44 #[.agg #[.string s, .slice a1 P.hs.length m1, .slice a2 P.md.length m2, .slice a3 n3 m3, .slice a4 n4 m4, .slice a5 n5 m5, .slice a6 n6 m6, .slice a7 n7 m7, .slice a8 P.dp.length m8], .agg #[.slice q80 E.va.length t80, .slice q81 E.fi.length t81, .slice q82 E.me.length t82, .slice q83 E.pl.length t83], .agg #[.int .i64 a, .int .i64 b], .int .u32 x] w (EnvP w E2)) := Lib.hid (fun w hx => by have h := refset_any (HP.out.ext ((grows (a := W) (b := wr)).trans hx)) ((OU8.out.ext hx).isE) HCE.out a b x x0 x1; rw [← hE2] at h; exact h)
            clear hE2
            go_wp2_with fail
            refine Rel.region_tail (W := (wr.alloc (.cells #[.int .i64 a, .int .i64 b, .int .u32 x, .int .i64 c] 76))) 14 (Rel.tab [(6, fun v w => EnvO w v E2), (13, fun v w => EnvO w v E2)]) (Rel.tab_lasts (by intro p hp v w w' hr hx; simp only [List.mem_cons, List.not_mem_nil, or_false] at hp; rcases hp with rfl | rfl; (· exact EnvO.ext hr hx); (· exact EnvO.ext hr hx))) (by kernel_rfl) (by kernel_rfl) (Ext.refl _) ?_
            simp only [List.take_succ_cons, List.take_zero]
            refine Rel.chunkT 6 rfl rfl rfl ?_
            simp only [List.take_succ_cons, List.take_zero, List.drop_succ_cons, List.drop_zero, Nat.reduceAdd]
            repeat (go_big_quiet_step (fail))
            refine wpQuiet_nil ?_
            refine Rel.callG (fun v w => EnvO w v E2) rfl rfl rfl Try.func43 (by nofun) (by decide) #[.agg #[.string s, .slice a1 P.hs.length m1, .slice a2 P.md.length m2, .slice a3 n3 m3, .slice a4 n4 m4, .slice a5 n5 m5, .slice a6 n6 m6, .slice a7 n7 m7, .slice a8 P.dp.length m8], .agg #[.slice q70 E.va.length t70, .slice q71 E.fi.length t71, .slice q72 E.me.length t72, .slice q73 E.pl.length t73], .agg #[.int .i64 a, .int .i64 b], .int .u32 x] rfl (fun w hx _ => by refine (HX1.out w ((grows (a := wr) (b := (wr.alloc (.cells #[.int .i64 a, .int .i64 b, .int .u32 x, .int .i64 c] 76)))).trans hx)).mono ?_; intro e w9 hh9; exact hh9.o) ?_
            intro v6 wq6 _ _ _
            simp only [Act.put, List.setIfInBounds_toArray, List.set_cons_succ, List.set_cons_zero]
            refine Rel.chunkT 6 rfl rfl rfl ?_
            simp only [List.take_succ_cons, List.take_zero, List.drop_succ_cons, List.drop_zero, Nat.reduceAdd]
            repeat (go_big_quiet_step (fail))
            refine wpQuiet_nil ?_
            refine Rel.callG (fun v w => EnvO w v E2) rfl rfl rfl Try.func44 (by nofun) (by decide) #[.agg #[.string s, .slice a1 P.hs.length m1, .slice a2 P.md.length m2, .slice a3 n3 m3, .slice a4 n4 m4, .slice a5 n5 m5, .slice a6 n6 m6, .slice a7 n7 m7, .slice a8 P.dp.length m8], .agg #[.slice q80 E.va.length t80, .slice q81 E.fi.length t81, .slice q82 E.me.length t82, .slice q83 E.pl.length t83], .agg #[.int .i64 a, .int .i64 b], .int .u32 x] rfl (fun w hx _ => by refine (HX2.out w ((grows (a := wr) (b := (wr.alloc (.cells #[.int .i64 a, .int .i64 b, .int .u32 x, .int .i64 c] 76)))).trans hx)).mono ?_; intro e w9 hh9; exact hh9.o) ?_
            intro v13 wq13 _ _ _
            simp only [Act.put, List.setIfInBounds_toArray, List.set_cons_succ, List.set_cons_zero]
            refine Rel.fin ?_
            intro w3 x3 hf3
            clear HX1 HX2
            have ra5 := (hf3 6).1.2 rfl
            have rb5 := (hf3 13).2 rfl
            have ra6 := ra5
            have rb6 := rb5
            obtain ⟨ev4, vs4, hv4, ho4⟩ := ra6
            obtain ⟨q40, q41, q42, q43, t40, t41, t42, t43, hg⟩ := ho4.isE.form
            obtain ⟨rfl, _, _, _, _, _, _, _, _⟩ := hg
            subst hv4
            clear ho4
            obtain ⟨ev5, vs5, hv5, ho5⟩ := rb6
            obtain ⟨q50, q51, q52, q53, t50, t51, t52, t53, hg⟩ := ho5.isE.form
            obtain ⟨rfl, _, _, _, _, _, _, _, _⟩ := hg
            subst hv5
            clear ho5
            have hfa := (((grows (a := wr) (b := (wr.alloc (.cells #[.int .i64 a, .int .i64 b, .int .u32 x, .int .i64 c] 76)))).trans x3).heap HB5.out)
            have hfb := (((grows (a := wr) (b := (wr.alloc (.cells #[.int .i64 a, .int .i64 b, .int .u32 x, .int .i64 c] 76)))).trans x3).heap HB6.out)
            clear hf3
            refine wpList_store_box rfl 65 (.tmp 5) (.tmp 55) rfl g5 #[.slice q40 E2.va.length t40, .slice q41 E2.fi.length t41, .slice q42 E2.me.length t42, .slice q43 E2.pl.length t43] rfl rfl 65 _ hfa (by kernel_rfl) rfl (by simp [Value.oneCell']) ?_
            intro wa ma ha
            obtain ⟨o6, hfo, ho6⟩ := box_old hfb rfl ma ha
            refine wpList_store_box rfl 65 (.tmp 6) (.tmp 62) rfl g6 #[.slice q50 E2.va.length t50, .slice q51 E2.fi.length t51, .slice q52 E2.me.length t52, .slice q53 E2.pl.length t53] rfl rfl 65 o6 hfo (by kernel_rfl) ho6 (by simp [Value.oneCell']) ?_
            intro wb mb hb
            have hrun := RunAt.stores (W1 := w1) (e5 := ⟨.slice q40 E2.va.length t40, .slice q41 E2.fi.length t41, .slice q42 E2.me.length t42, .slice q43 E2.pl.length t43⟩) (e6 := ⟨.slice q50 E2.va.length t50, .slice q51 E2.fi.length t51, .slice q52 E2.me.length t52, .slice q53 E2.pl.length t53⟩) ((XR.out.trans (grows (a := wr) (b := (wr.alloc (.cells #[.int .i64 a, .int .i64 b, .int .u32 x, .int .i64 c] 76))))).trans x3) g5w g6w hfa hfo ra5 rb5 ma ha mb hb
            clear ra5 rb5 ma ha mb hb hfa hfb hfo ho6
            have sb9 : Step w1 wb := Step.mk (by obtain ⟨_, _, h, _⟩ := hrun; exact h)
            clear x3
            have HRN := Lib.hid hrun
            clear ka0 ka1 ka2 ka3 kb0 kb1 kb2 kb3 OV7 OU8 HB5 HB6
            obtain ⟨v, u, xr, ⟨ev7, rfl, hb5⟩, ⟨ev8, rfl, hb6⟩, ov, ou⟩ := hrun
            obtain ⟨vs7, ov7⟩ := ov.at
            obtain ⟨vs8, ou8⟩ := ou.at
            obtain ⟨q70, q71, q72, q73, t70, t71, t72, t73, hg⟩ := ov7.isE.form
            obtain ⟨rfl, _, _, _, _, _, _, _, _⟩ := hg
            obtain ⟨q80, q81, q82, q83, t80, t81, t82, t83, hg⟩ := ou8.isE.form
            obtain ⟨rfl, _, _, _, _, _, _, _, _⟩ := hg
            dsimp only [Pg.EV.val] at hb5 hb6
            have ka0 := alw (cell_of (o := 0) hb5)
            have ka1 := alw (cell_of (o := 1) hb5)
            have ka2 := alw (cell_of (o := 2) hb5)
            have ka3 := alw (cell_of (o := 3) hb5)
            have kb0 := alw (cell_of (o := 0) hb6)
            have kb1 := alw (cell_of (o := 1) hb6)
            have kb2 := alw (cell_of (o := 2) hb6)
            have kb3 := alw (cell_of (o := 3) hb6)
            have HQ : Hid (∀ w, Ext wb w → Calls Try.prog 36 #[.agg #[.slice q70 E2.va.length t70, .slice q71 E2.fi.length t71, .slice q72 E2.me.length t72, .slice q73 E2.pl.length t73], .agg #[.slice q80 E2.va.length t80, .slice q81 E2.fi.length t81, .slice q82 E2.me.length t82, .slice q83 E2.pl.length t83]] w (Rets w (.bool true))) := Lib.hid (fun w hx => by have h := reqV (ov.v.ext hx) (ou.v.ext hx); rw [En.eq_self] at h; exact h)
            have HC : Hid (∀ w, Ext wb w → Calls Try.prog 39 #[.agg #[.string s, .slice a1 P.hs.length m1, .slice a2 P.md.length m2, .slice a3 n3 m3, .slice a4 n4 m4, .slice a5 n5 m5, .slice a6 n6 m6, .slice a7 n7 m7, .slice a8 P.dp.length m8], .agg #[.slice q70 E2.va.length t70, .slice q71 E2.fi.length t71, .slice q72 E2.me.length t72, .slice q73 E2.pl.length t73]] w (Rets w (.int .i64 0))) := Lib.hid (fun w hx => by have h := chkV (HP.out.ext ((grows (a := W) (b := wb)).trans hx)) (ov.v.ext hx); rw [HK2.out] at h; exact h)
            clear ov ou ov7 ou8 hb5 hb6 xr
            go_wp2_with fail
            refine (HQ.out _ grows).mono ?_
            rintro e w6 ⟨rfl, xw6⟩
            have sw6 := Step.mk xw6
            go_wp2_with fail
            refine (HC.out _ grows).mono ?_
            rintro e w7 ⟨rfl, xw7⟩
            have sw7 := Step.mk xw7
            go_wp2_with fail
            go_roundw
            case rel => exact ⟨k + 1, by omega, by go_num, Lib.hid ⟨E2, HRN.out.ext grows, HK2.out, HP2.out⟩⟩
            case measure => simp [intOf]; omega
          · by_cases d1 : d = 1
            · subst d1
              obtain ⟨E2, hE2⟩ : ∃ z, z = En.switch P E c true true := ⟨_, rfl⟩
              have HK2 : Hid (Pg.chkE P E2 = 0) := Lib.hid (by rw [hE2]; exact En.chk_switch HK.out c true true)
              have HP2 : Hid (E2.pl = []) := Lib.hid (by rw [hE2, En.switch_pl]; exact HPL.out)
              have HX1 : Hid (∀ w, Ext wr w → Calls Try.prog 45 #[.agg #[.string s, .slice a1 P.hs.length m1, .slice a2 P.md.length m2, .slice a3 n3 m3, .slice a4 n4 m4, .slice a5 n5 m5, .slice a6 n6 m6, .slice a7 n7 m7, .slice a8 P.dp.length m8], .agg #[.slice q70 E.va.length t70, .slice q71 E.fi.length t71, .slice q72 E.me.length t72, .slice q73 E.pl.length t73], .int .i64 c] w (EnvP w E2)) := Lib.hid (fun w hx => by have h := eadd_any (HP.out.ext ((grows (a := W) (b := wr)).trans hx)) ((OV7.out.ext hx).isE) HCE.out c; rw [← hE2] at h; exact h)
              have HX2 : Hid (∀ w, Ext wr w → Calls Try.prog 46 #[.agg #[.string s, .slice a1 P.hs.length m1, .slice a2 P.md.length m2, .slice a3 n3 m3, .slice a4 n4 m4, .slice a5 n5 m5, .slice a6 n6 m6, .slice a7 n7 m7, .slice a8 P.dp.length m8], .agg #[.slice q80 E.va.length t80, .slice q81 E.fi.length t81, .slice q82 E.me.length t82, .slice q83 E.pl.length t83], .int .i64 c] w (EnvP w E2)) := Lib.hid (fun w hx => by have h := refadd_any (HP.out.ext ((grows (a := W) (b := wr)).trans hx)) ((OU8.out.ext hx).isE) HCE.out c; rw [← hE2] at h; exact h)
              clear hE2
              go_wp2_with fail
              refine Rel.region_tail (W := (wr.alloc (.cells #[.int .i64 a, .int .i64 b, .int .u32 x, .int .i64 c] 76))) 10 (Rel.tab [(4, fun v w => EnvO w v E2), (9, fun v w => EnvO w v E2)]) (Rel.tab_lasts (by intro p hp v w w' hr hx; simp only [List.mem_cons, List.not_mem_nil, or_false] at hp; rcases hp with rfl | rfl; (· exact EnvO.ext hr hx); (· exact EnvO.ext hr hx))) (by kernel_rfl) (by kernel_rfl) (Ext.refl _) ?_
              simp only [List.take_succ_cons, List.take_zero]
              refine Rel.chunkT 4 rfl rfl rfl ?_
              simp only [List.take_succ_cons, List.take_zero, List.drop_succ_cons, List.drop_zero, Nat.reduceAdd]
              repeat (go_big_quiet_step (fail))
              refine wpQuiet_nil ?_
              refine Rel.callG (fun v w => EnvO w v E2) rfl rfl rfl Try.func45 (by nofun) (by decide) #[.agg #[.string s, .slice a1 P.hs.length m1, .slice a2 P.md.length m2, .slice a3 n3 m3, .slice a4 n4 m4, .slice a5 n5 m5, .slice a6 n6 m6, .slice a7 n7 m7, .slice a8 P.dp.length m8], .agg #[.slice q70 E.va.length t70, .slice q71 E.fi.length t71, .slice q72 E.me.length t72, .slice q73 E.pl.length t73], .int .i64 c] rfl (fun w hx _ => by refine (HX1.out w ((grows (a := wr) (b := (wr.alloc (.cells #[.int .i64 a, .int .i64 b, .int .u32 x, .int .i64 c] 76)))).trans hx)).mono ?_; intro e w9 hh9; exact hh9.o) ?_
              intro v4 wq4 _ _ _
              simp only [Act.put, List.setIfInBounds_toArray, List.set_cons_succ, List.set_cons_zero]
              refine Rel.chunkT 4 rfl rfl rfl ?_
              simp only [List.take_succ_cons, List.take_zero, List.drop_succ_cons, List.drop_zero, Nat.reduceAdd]
              repeat (go_big_quiet_step (fail))
              refine wpQuiet_nil ?_
              refine Rel.callG (fun v w => EnvO w v E2) rfl rfl rfl Try.func46 (by nofun) (by decide) #[.agg #[.string s, .slice a1 P.hs.length m1, .slice a2 P.md.length m2, .slice a3 n3 m3, .slice a4 n4 m4, .slice a5 n5 m5, .slice a6 n6 m6, .slice a7 n7 m7, .slice a8 P.dp.length m8], .agg #[.slice q80 E.va.length t80, .slice q81 E.fi.length t81, .slice q82 E.me.length t82, .slice q83 E.pl.length t83], .int .i64 c] rfl (fun w hx _ => by refine (HX2.out w ((grows (a := wr) (b := (wr.alloc (.cells #[.int .i64 a, .int .i64 b, .int .u32 x, .int .i64 c] 76)))).trans hx)).mono ?_; intro e w9 hh9; exact hh9.o) ?_
              intro v9 wq9 _ _ _
              simp only [Act.put, List.setIfInBounds_toArray, List.set_cons_succ, List.set_cons_zero]
              refine Rel.fin ?_
              intro w3 x3 hf3
              clear HX1 HX2
              have ra5 := (hf3 4).1.2 rfl
              have rb5 := (hf3 9).2 rfl
              have ra6 := ra5
              have rb6 := rb5
              obtain ⟨ev4, vs4, hv4, ho4⟩ := ra6
              obtain ⟨q40, q41, q42, q43, t40, t41, t42, t43, hg⟩ := ho4.isE.form
              obtain ⟨rfl, _, _, _, _, _, _, _, _⟩ := hg
              subst hv4
              clear ho4
              obtain ⟨ev5, vs5, hv5, ho5⟩ := rb6
              obtain ⟨q50, q51, q52, q53, t50, t51, t52, t53, hg⟩ := ho5.isE.form
              obtain ⟨rfl, _, _, _, _, _, _, _, _⟩ := hg
              subst hv5
              clear ho5
              have hfa := (((grows (a := wr) (b := (wr.alloc (.cells #[.int .i64 a, .int .i64 b, .int .u32 x, .int .i64 c] 76)))).trans x3).heap HB5.out)
              have hfb := (((grows (a := wr) (b := (wr.alloc (.cells #[.int .i64 a, .int .i64 b, .int .u32 x, .int .i64 c] 76)))).trans x3).heap HB6.out)
              clear hf3
              refine wpList_store_box rfl 65 (.tmp 5) (.tmp 69) rfl g5 #[.slice q40 E2.va.length t40, .slice q41 E2.fi.length t41, .slice q42 E2.me.length t42, .slice q43 E2.pl.length t43] rfl rfl 65 _ hfa (by kernel_rfl) rfl (by simp [Value.oneCell']) ?_
              intro wa ma ha
              obtain ⟨o6, hfo, ho6⟩ := box_old hfb rfl ma ha
              refine wpList_store_box rfl 65 (.tmp 6) (.tmp 74) rfl g6 #[.slice q50 E2.va.length t50, .slice q51 E2.fi.length t51, .slice q52 E2.me.length t52, .slice q53 E2.pl.length t53] rfl rfl 65 o6 hfo (by kernel_rfl) ho6 (by simp [Value.oneCell']) ?_
              intro wb mb hb
              have hrun := RunAt.stores (W1 := w1) (e5 := ⟨.slice q40 E2.va.length t40, .slice q41 E2.fi.length t41, .slice q42 E2.me.length t42, .slice q43 E2.pl.length t43⟩) (e6 := ⟨.slice q50 E2.va.length t50, .slice q51 E2.fi.length t51, .slice q52 E2.me.length t52, .slice q53 E2.pl.length t53⟩) ((XR.out.trans (grows (a := wr) (b := (wr.alloc (.cells #[.int .i64 a, .int .i64 b, .int .u32 x, .int .i64 c] 76))))).trans x3) g5w g6w hfa hfo ra5 rb5 ma ha mb hb
              clear ra5 rb5 ma ha mb hb hfa hfb hfo ho6
              have sb9 : Step w1 wb := Step.mk (by obtain ⟨_, _, h, _⟩ := hrun; exact h)
              clear x3
              have HRN := Lib.hid hrun
              clear ka0 ka1 ka2 ka3 kb0 kb1 kb2 kb3 OV7 OU8 HB5 HB6
              obtain ⟨v, u, xr, ⟨ev7, rfl, hb5⟩, ⟨ev8, rfl, hb6⟩, ov, ou⟩ := hrun
              obtain ⟨vs7, ov7⟩ := ov.at
              obtain ⟨vs8, ou8⟩ := ou.at
              obtain ⟨q70, q71, q72, q73, t70, t71, t72, t73, hg⟩ := ov7.isE.form
              obtain ⟨rfl, _, _, _, _, _, _, _, _⟩ := hg
              obtain ⟨q80, q81, q82, q83, t80, t81, t82, t83, hg⟩ := ou8.isE.form
              obtain ⟨rfl, _, _, _, _, _, _, _, _⟩ := hg
              dsimp only [Pg.EV.val] at hb5 hb6
              have ka0 := alw (cell_of (o := 0) hb5)
              have ka1 := alw (cell_of (o := 1) hb5)
              have ka2 := alw (cell_of (o := 2) hb5)
              have ka3 := alw (cell_of (o := 3) hb5)
              have kb0 := alw (cell_of (o := 0) hb6)
              have kb1 := alw (cell_of (o := 1) hb6)
              have kb2 := alw (cell_of (o := 2) hb6)
              have kb3 := alw (cell_of (o := 3) hb6)
              have HQ : Hid (∀ w, Ext wb w → Calls Try.prog 36 #[.agg #[.slice q70 E2.va.length t70, .slice q71 E2.fi.length t71, .slice q72 E2.me.length t72, .slice q73 E2.pl.length t73], .agg #[.slice q80 E2.va.length t80, .slice q81 E2.fi.length t81, .slice q82 E2.me.length t82, .slice q83 E2.pl.length t83]] w (Rets w (.bool true))) := Lib.hid (fun w hx => by have h := reqV (ov.v.ext hx) (ou.v.ext hx); rw [En.eq_self] at h; exact h)
              have HC : Hid (∀ w, Ext wb w → Calls Try.prog 39 #[.agg #[.string s, .slice a1 P.hs.length m1, .slice a2 P.md.length m2, .slice a3 n3 m3, .slice a4 n4 m4, .slice a5 n5 m5, .slice a6 n6 m6, .slice a7 n7 m7, .slice a8 P.dp.length m8], .agg #[.slice q70 E2.va.length t70, .slice q71 E2.fi.length t71, .slice q72 E2.me.length t72, .slice q73 E2.pl.length t73]] w (Rets w (.int .i64 0))) := Lib.hid (fun w hx => by have h := chkV (HP.out.ext ((grows (a := W) (b := wb)).trans hx)) (ov.v.ext hx); rw [HK2.out] at h; exact h)
              clear ov ou ov7 ou8 hb5 hb6 xr
              go_wp2_with fail
              refine (HQ.out _ grows).mono ?_
              rintro e w6 ⟨rfl, xw6⟩
              have sw6 := Step.mk xw6
              go_wp2_with fail
              refine (HC.out _ grows).mono ?_
              rintro e w7 ⟨rfl, xw7⟩
              have sw7 := Step.mk xw7
              go_wp2_with fail
              go_roundw
              case rel => exact ⟨k + 1, by omega, by go_num, Lib.hid ⟨E2, HRN.out.ext grows, HK2.out, HP2.out⟩⟩
              case measure => simp [intOf]; omega
            · have e0 : (d == 0) = false := beq_eq_false_iff_ne.2 d0
              have e1 : (d == 1) = false := beq_eq_false_iff_ne.2 d1
              obtain ⟨E2, hE2⟩ : ∃ z, z = En.switch P E c false false := ⟨_, rfl⟩
              have HK2 : Hid (Pg.chkE P E2 = 0) := Lib.hid (by rw [hE2]; exact En.chk_switch HK.out c false false)
              have HP2 : Hid (E2.pl = []) := Lib.hid (by rw [hE2, En.switch_pl]; exact HPL.out)
              have HX1 : Hid (∀ w, Ext wr w → Calls Try.prog 47 #[.agg #[.string s, .slice a1 P.hs.length m1, .slice a2 P.md.length m2, .slice a3 n3 m3, .slice a4 n4 m4, .slice a5 n5 m5, .slice a6 n6 m6, .slice a7 n7 m7, .slice a8 P.dp.length m8], .agg #[.slice q70 E.va.length t70, .slice q71 E.fi.length t71, .slice q72 E.me.length t72, .slice q73 E.pl.length t73], .int .i64 c] w (EnvP w E2)) := Lib.hid (fun w hx => by have h := erem_any (HP.out.ext ((grows (a := W) (b := wr)).trans hx)) ((OV7.out.ext hx).isE) HCE.out c; rw [← hE2] at h; exact h)
              have HX2 : Hid (∀ w, Ext wr w → Calls Try.prog 48 #[.agg #[.string s, .slice a1 P.hs.length m1, .slice a2 P.md.length m2, .slice a3 n3 m3, .slice a4 n4 m4, .slice a5 n5 m5, .slice a6 n6 m6, .slice a7 n7 m7, .slice a8 P.dp.length m8], .agg #[.slice q80 E.va.length t80, .slice q81 E.fi.length t81, .slice q82 E.me.length t82, .slice q83 E.pl.length t83], .int .i64 c] w (EnvP w E2)) := Lib.hid (fun w hx => by have h := refrem_any (HP.out.ext ((grows (a := W) (b := wr)).trans hx)) ((OU8.out.ext hx).isE) HCE.out c; rw [← hE2] at h; exact h)
              clear hE2
              go_wp2_with fail
              refine Rel.region_tail (W := (wr.alloc (.cells #[.int .i64 a, .int .i64 b, .int .u32 x, .int .i64 c] 76))) 10 (Rel.tab [(4, fun v w => EnvO w v E2), (9, fun v w => EnvO w v E2)]) (Rel.tab_lasts (by intro p hp v w w' hr hx; simp only [List.mem_cons, List.not_mem_nil, or_false] at hp; rcases hp with rfl | rfl; (· exact EnvO.ext hr hx); (· exact EnvO.ext hr hx))) (by kernel_rfl) (by kernel_rfl) (Ext.refl _) ?_
              simp only [List.take_succ_cons, List.take_zero]
              refine Rel.chunkT 4 rfl rfl rfl ?_
              simp only [List.take_succ_cons, List.take_zero, List.drop_succ_cons, List.drop_zero, Nat.reduceAdd]
              repeat (go_big_quiet_step (fail))
              refine wpQuiet_nil ?_
              refine Rel.callG (fun v w => EnvO w v E2) rfl rfl rfl Try.func47 (by nofun) (by decide) #[.agg #[.string s, .slice a1 P.hs.length m1, .slice a2 P.md.length m2, .slice a3 n3 m3, .slice a4 n4 m4, .slice a5 n5 m5, .slice a6 n6 m6, .slice a7 n7 m7, .slice a8 P.dp.length m8], .agg #[.slice q70 E.va.length t70, .slice q71 E.fi.length t71, .slice q72 E.me.length t72, .slice q73 E.pl.length t73], .int .i64 c] rfl (fun w hx _ => by refine (HX1.out w ((grows (a := wr) (b := (wr.alloc (.cells #[.int .i64 a, .int .i64 b, .int .u32 x, .int .i64 c] 76)))).trans hx)).mono ?_; intro e w9 hh9; exact hh9.o) ?_
              intro v4 wq4 _ _ _
              simp only [Act.put, List.setIfInBounds_toArray, List.set_cons_succ, List.set_cons_zero]
              refine Rel.chunkT 4 rfl rfl rfl ?_
              simp only [List.take_succ_cons, List.take_zero, List.drop_succ_cons, List.drop_zero, Nat.reduceAdd]
              repeat (go_big_quiet_step (fail))
              refine wpQuiet_nil ?_
              refine Rel.callG (fun v w => EnvO w v E2) rfl rfl rfl Try.func48 (by nofun) (by decide) #[.agg #[.string s, .slice a1 P.hs.length m1, .slice a2 P.md.length m2, .slice a3 n3 m3, .slice a4 n4 m4, .slice a5 n5 m5, .slice a6 n6 m6, .slice a7 n7 m7, .slice a8 P.dp.length m8], .agg #[.slice q80 E.va.length t80, .slice q81 E.fi.length t81, .slice q82 E.me.length t82, .slice q83 E.pl.length t83], .int .i64 c] rfl (fun w hx _ => by refine (HX2.out w ((grows (a := wr) (b := (wr.alloc (.cells #[.int .i64 a, .int .i64 b, .int .u32 x, .int .i64 c] 76)))).trans hx)).mono ?_; intro e w9 hh9; exact hh9.o) ?_
              intro v9 wq9 _ _ _
              simp only [Act.put, List.setIfInBounds_toArray, List.set_cons_succ, List.set_cons_zero]
              refine Rel.fin ?_
              intro w3 x3 hf3
              clear HX1 HX2
              have ra5 := (hf3 4).1.2 rfl
              have rb5 := (hf3 9).2 rfl
              have ra6 := ra5
              have rb6 := rb5
              obtain ⟨ev4, vs4, hv4, ho4⟩ := ra6
              obtain ⟨q40, q41, q42, q43, t40, t41, t42, t43, hg⟩ := ho4.isE.form
              obtain ⟨rfl, _, _, _, _, _, _, _, _⟩ := hg
              subst hv4
              clear ho4
              obtain ⟨ev5, vs5, hv5, ho5⟩ := rb6
              obtain ⟨q50, q51, q52, q53, t50, t51, t52, t53, hg⟩ := ho5.isE.form
              obtain ⟨rfl, _, _, _, _, _, _, _, _⟩ := hg
              subst hv5
              clear ho5
              have hfa := (((grows (a := wr) (b := (wr.alloc (.cells #[.int .i64 a, .int .i64 b, .int .u32 x, .int .i64 c] 76)))).trans x3).heap HB5.out)
              have hfb := (((grows (a := wr) (b := (wr.alloc (.cells #[.int .i64 a, .int .i64 b, .int .u32 x, .int .i64 c] 76)))).trans x3).heap HB6.out)
              clear hf3
              refine wpList_store_box rfl 65 (.tmp 5) (.tmp 41) rfl g5 #[.slice q40 E2.va.length t40, .slice q41 E2.fi.length t41, .slice q42 E2.me.length t42, .slice q43 E2.pl.length t43] rfl rfl 65 _ hfa (by kernel_rfl) rfl (by simp [Value.oneCell']) ?_
              intro wa ma ha
              obtain ⟨o6, hfo, ho6⟩ := box_old hfb rfl ma ha
              refine wpList_store_box rfl 65 (.tmp 6) (.tmp 46) rfl g6 #[.slice q50 E2.va.length t50, .slice q51 E2.fi.length t51, .slice q52 E2.me.length t52, .slice q53 E2.pl.length t53] rfl rfl 65 o6 hfo (by kernel_rfl) ho6 (by simp [Value.oneCell']) ?_
              intro wb mb hb
              have hrun := RunAt.stores (W1 := w1) (e5 := ⟨.slice q40 E2.va.length t40, .slice q41 E2.fi.length t41, .slice q42 E2.me.length t42, .slice q43 E2.pl.length t43⟩) (e6 := ⟨.slice q50 E2.va.length t50, .slice q51 E2.fi.length t51, .slice q52 E2.me.length t52, .slice q53 E2.pl.length t53⟩) ((XR.out.trans (grows (a := wr) (b := (wr.alloc (.cells #[.int .i64 a, .int .i64 b, .int .u32 x, .int .i64 c] 76))))).trans x3) g5w g6w hfa hfo ra5 rb5 ma ha mb hb
              clear ra5 rb5 ma ha mb hb hfa hfb hfo ho6
              have sb9 : Step w1 wb := Step.mk (by obtain ⟨_, _, h, _⟩ := hrun; exact h)
              clear x3
              have HRN := Lib.hid hrun
              clear ka0 ka1 ka2 ka3 kb0 kb1 kb2 kb3 OV7 OU8 HB5 HB6
              obtain ⟨v, u, xr, ⟨ev7, rfl, hb5⟩, ⟨ev8, rfl, hb6⟩, ov, ou⟩ := hrun
              obtain ⟨vs7, ov7⟩ := ov.at
              obtain ⟨vs8, ou8⟩ := ou.at
              obtain ⟨q70, q71, q72, q73, t70, t71, t72, t73, hg⟩ := ov7.isE.form
              obtain ⟨rfl, _, _, _, _, _, _, _, _⟩ := hg
              obtain ⟨q80, q81, q82, q83, t80, t81, t82, t83, hg⟩ := ou8.isE.form
              obtain ⟨rfl, _, _, _, _, _, _, _, _⟩ := hg
              dsimp only [Pg.EV.val] at hb5 hb6
              have ka0 := alw (cell_of (o := 0) hb5)
              have ka1 := alw (cell_of (o := 1) hb5)
              have ka2 := alw (cell_of (o := 2) hb5)
              have ka3 := alw (cell_of (o := 3) hb5)
              have kb0 := alw (cell_of (o := 0) hb6)
              have kb1 := alw (cell_of (o := 1) hb6)
              have kb2 := alw (cell_of (o := 2) hb6)
              have kb3 := alw (cell_of (o := 3) hb6)
              have HQ : Hid (∀ w, Ext wb w → Calls Try.prog 36 #[.agg #[.slice q70 E2.va.length t70, .slice q71 E2.fi.length t71, .slice q72 E2.me.length t72, .slice q73 E2.pl.length t73], .agg #[.slice q80 E2.va.length t80, .slice q81 E2.fi.length t81, .slice q82 E2.me.length t82, .slice q83 E2.pl.length t83]] w (Rets w (.bool true))) := Lib.hid (fun w hx => by have h := reqV (ov.v.ext hx) (ou.v.ext hx); rw [En.eq_self] at h; exact h)
              have HC : Hid (∀ w, Ext wb w → Calls Try.prog 39 #[.agg #[.string s, .slice a1 P.hs.length m1, .slice a2 P.md.length m2, .slice a3 n3 m3, .slice a4 n4 m4, .slice a5 n5 m5, .slice a6 n6 m6, .slice a7 n7 m7, .slice a8 P.dp.length m8], .agg #[.slice q70 E2.va.length t70, .slice q71 E2.fi.length t71, .slice q72 E2.me.length t72, .slice q73 E2.pl.length t73]] w (Rets w (.int .i64 0))) := Lib.hid (fun w hx => by have h := chkV (HP.out.ext ((grows (a := W) (b := wb)).trans hx)) (ov.v.ext hx); rw [HK2.out] at h; exact h)
              clear ov ou ov7 ou8 hb5 hb6 xr
              go_wp2_with fail
              refine (HQ.out _ grows).mono ?_
              rintro e w6 ⟨rfl, xw6⟩
              have sw6 := Step.mk xw6
              go_wp2_with fail
              refine (HC.out _ grows).mono ?_
              rintro e w7 ⟨rfl, xw7⟩
              have sw7 := Step.mk xw7
              go_wp2_with fail
              go_roundw
              case rel => exact ⟨k + 1, by omega, by go_num, Lib.hid ⟨E2, HRN.out.ext grows, HK2.out, HP2.out⟩⟩
              case measure => simp [intOf]; omega
        · obtain rfl : k = ac.length := by omega
          clear hat hch hpl HI
          go_wp2_with fail
          refine (eworks_any _).mono ?_
          rintro e w5 ⟨rfl, x5⟩
          have s5 := Step.mk x5
          go_wp2_with fail
          go_ret
          exact ⟨rfl, grows⟩
    · have hd : decide ((60 : Int) < (ac.length : Int)) = true := decide_eq_true (by omega)
      clear ht0 hp hac hcp
      go_enter Try.func7, Try.ntmps7
      go_wp2_with fail
      refine (HTL.out _ grows).mono ?_
      rintro e w1 ⟨rfl, xw1⟩
      have sw1 := Step.mk xw1
      go_wp2_with fail
      refine (eworks_any _).mono ?_
      rintro e w5 ⟨rfl, x5⟩
      have s5 := Step.mk x5
      go_wp2_with fail
      go_ret
      exact ⟨rfl, grows⟩
end Go.Proofs.Ytdgepbolfflidaa
