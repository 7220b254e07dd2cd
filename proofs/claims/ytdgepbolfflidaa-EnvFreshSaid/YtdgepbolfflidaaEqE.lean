/- Environments: Set, AddHeader, RemoveHeader, walked. No condition. -/
import Derived.Test.YtdgepbolfflidaaEqD
import Derived.Test.YtdgepbolfflidaaEqA
namespace Go.Proofs.Ytdgepbolfflidaa
open Go.RowKit

theorem modulo_any {W : World} (v : Int) (n : Nat) (h0 : 0 ≤ v) (h1 : v < 4294967296) (n1 : 1 ≤ n) (n2 : n ≤ 32) :
    Calls Try.prog 83 #[.int .u32 v, .int .i64 (n : Int)] W fun e W' => e = .returned (.int .u32 (Bv.red v n)) ∧ W = W' := by
  have HRD : Hid (Bv.red v (n : Int) = v % 2 ^ n) := Lib.hid (by unfold Bv.red; rw [if_pos (Bv.ok_of (by omega) (by omega))]; simp [Bv.pw])
  have HRB := Lib.hid (Bv.red_bd v (n : Int))
  rw [HRD.out]
  have hb := HRB.out
  rw [HRD.out] at hb
  go_enter Try.func83, Try.ntmps83
  go_wp2_with fail
  go_loop [5, 6] (fun t i => ∃ k : Nat, k ≤ n ∧ i = .int .i64 k ∧ t = .int .u64 (2 ^ k)) (fun _ i => n - (intOf i).toNat)
  case atStart => exact ⟨0, Nat.zero_le _, rfl, rfl⟩
  case round =>
    obtain ⟨k, hk, rfl, rfl⟩ := hrel
    by_cases hlt : k < n
    · have hp : (2 : Int) ^ k ≤ 2 ^ 31 := by exact_mod_cast Nat.pow_le_pow_right (by decide : 0 < 2) (show k ≤ 31 by omega)
      have hp0 : (0 : Int) < 2 ^ k := Int.pow_pos (by decide)
      have hps : (2 : Int) ^ (k + 1) = 2 * 2 ^ k := by rw [Int.pow_succ]; omega
      have HPS := Lib.hid hps
      clear hps hb
      obtain ⟨y, hy⟩ : ∃ y, y = (2 : Int) ^ k := ⟨_, rfl⟩
      rw [← hy] at hp hp0 HPS ⊢
      have hp2 : y ≤ 2147483648 := by omega
      clear hy hp
      go_wp2_with fail
      go_round
      case rel => exact ⟨k + 1, by omega, by go_num, by rw [HPS.out]⟩
      case measure => simp [intOf]; omega
    · obtain rfl : k = n := by omega
      have hp0 : (0 : Int) < 2 ^ k := Int.pow_pos (by decide)
      obtain ⟨y, hy⟩ : ∃ y, y = (2 : Int) ^ k := ⟨_, rfl⟩
      have HY := Lib.hid hy
      rw [← hy] at hp0 hb ⊢
      clear hy
      have hy0 : ¬ y = 0 := by omega
      obtain ⟨z, hz⟩ : ∃ z, z = v % y := ⟨_, rfl⟩
      rw [← hz] at hb
      obtain ⟨hb0, hb1⟩ := hb
      have HZ := Lib.hid hz
      have hw := Int.emod_eq_of_lt hb0 hb1
      have HW := Lib.hid hw
      clear hz hw
      go_wp2_with fail
      go_ret
      exact ⟨by rw [← HY.out, ← HZ.out]; exact ret_int HW.out, rfl⟩
namespace En
def put (E : Pg.Env) (h : Int) (k : Nat) (x : Int) : Pg.Env := if h = -1 then ⟨E.va, E.fi, E.me.set k x, E.pl⟩ else ⟨E.va, E.fi.set h.toNat ((rowAt E.fi h).set k x), E.me, E.pl⟩
def set (P : Pg.Prog) (E : Pg.Env) (h f v : Int) : Pg.Env := if elB E h f && Bv.ok (Pg.wid P h f) then put E h f.toNat (Bv.red v (Pg.wid P h f)) else E
theorem set_el {P : Pg.Prog} {E : Pg.Env} {h f v : Int} (e : elB E h f = false) : set P E h f v = E := by unfold set; rw [e]; rfl
theorem set_wid {P : Pg.Prog} {E : Pg.Env} {h f v : Int} (e : Bv.ok (Pg.wid P h f) = false) : set P E h f v = E := by unfold set; rw [e, Bool.and_false]; rfl
theorem set_yes {P : Pg.Prog} {E : Pg.Env} {h v : Int} {k : Nat} (e : elB E h k = true) (e' : Bv.ok (Pg.wid P h k) = true) : set P E h k v = put E h k (Bv.red v (Pg.wid P h k)) := by unfold set; rw [e, e', Int.toNat_natCast]; rfl
theorem wid_no {P : Pg.Prog} {h f : Int} (e : Bv.ok (Pg.wid P h f) = false) : Pg.wid P h f = 0 := by
  unfold Pg.wid at e ⊢
  by_cases hk : Bv.ok (Pg.fldAt (Pg.flds P h) f).2 = true
  · rw [if_pos hk] at e; rw [e] at hk; cases hk
  · rw [if_neg hk]
theorem wid_ok {P : Pg.Prog} {h f : Int} (e : Bv.ok (Pg.wid P h f) = true) : ∃ n : Nat, Pg.wid P h f = n ∧ 1 ≤ n ∧ n ≤ 32 := by
  have := Bv.ok_iff.1 e
  exact ⟨(Pg.wid P h f).toNat, by omega, by omega, by omega⟩
end En
/-- what element has found may be written -/
theorem OwnE.elem {B : Nat} {w : World} {e : Pg.EV} {vs : List Value} {E : Pg.Env} (h : OwnE B w e vs E) {hh : Int} {k : Nat} {u : Value} (hl : ElV w e E hh u) (hel : En.elB E hh k = true) :
    ∃ g n c y, u = .slice (some ⟨g, 0, none⟩) n c ∧ k < n ∧ n ≤ c ∧ c ≤ maxLen ∧ (∀ w' [Grows w w'], w'.cell? ⟨g, k, none⟩ = some y) ∧ (∀ w' [Grows w w'], w'.frozen? ⟨g, k, none⟩ = false) ∧ B ≤ g ∧ g < w.heap.size ∧
      ∀ (w' : World) (x : Int), Ext w w' → U32 x → OwnE B (w'.setCell ⟨g, k, none⟩ (.int .u32 x)) e vs (En.put E hh k x) := by
  by_cases hm : hh = -1
  · subst hm
    have hk : k < E.me.length := by
      obtain ⟨k', e1, e2⟩ := En.elB_get hel
      obtain rfl : k = k' := by omega
      exact e2
    obtain ⟨g, c, e1, a1, a2, a3, a4, a5, a6, _⟩ := own_at (k := k) h.me (by rw [List.getElem?_map, List.getElem?_eq_getElem hk]; rfl)
    refine ⟨g, _, c, _, (hl.1 rfl).trans e1, hk, a5, a6, a1, a2, a3, a4, fun w' x hx hU => ?_⟩
    unfold En.put
    rw [if_pos rfl]
    exact (h.ext hx).setMe e1 k hU
  · have h2 := hel
    unfold En.elB at h2
    rw [if_neg hm] at h2
    simp only [Bool.and_eq_true] at h2
    obtain ⟨m, rfl, hmm⟩ := En.inB_get (En.row_in h2.2)
    obtain ⟨l, hlm⟩ : ∃ l, E.fi[m]? = some l := ⟨_, List.getElem?_eq_getElem hmm⟩
    have h3 := h2.2
    rw [En.rowAt_in hlm] at h3
    obtain ⟨k', e1, e2⟩ := En.inB_get h3
    obtain rfl : k = k' := by omega
    obtain ⟨u', hu', ho, hU'⟩ := h.fi.row hlm
    obtain ⟨G, C, f1, f2, _⟩ := own_at (k := m) h.fi.2.1 hu'
    have e3 := hl.2 G 0 _ C m rfl f1 hmm
    rw [Nat.zero_add, f2 w] at e3
    obtain rfl := Option.some.inj e3
    obtain ⟨g, c, rfl, a1, a2, a3, a4, a5, a6, _⟩ := own_at (k := k) ho (by rw [List.getElem?_map, List.getElem?_eq_getElem e2]; rfl)
    refine ⟨g, _, c, _, rfl, e2, a5, a6, a1, a2, a3, a4, fun w' x hx hU => ?_⟩
    unfold En.put
    rw [if_neg hm, En.rowAt_in hlm, Int.toNat_natCast]
    exact (h.ext hx).setFi hu' hlm k hU
set_option maxRecDepth 8000 in
set_option maxHeartbeats 4000000 in
theorem set_any {W : World} {p : Pg.PV} {P : Pg.Prog} {e : Pg.EV} {E : Pg.Env} (hp : Pg.IsP W p P) (he : Pg.IsE W e E) (hc : En.CapE E) (h f v : Int) (v0 : 0 ≤ v) (v1 : v < 4294967296) :
    Calls Try.prog 43 #[p.val, e.val, .agg #[.int .i64 h, .int .i64 f], .int .u32 v] W (EnvP W (En.set P E h f v)) := by
  have HWD := Lib.hid (fun w (hx : Ext W w) => width_any (hp.ext hx) h f)
  have HCL := Lib.hid (fun w (hx : Ext W w) => clone_any (he.ext hx) hc)
  obtain ⟨s, a1, a2, a3, a4, a5, a6, a7, a8, m1, m2, n3, m3, n4, m4, n5, m5, n6, m6, n7, m7, m8, hf⟩ := hp.form
  obtain ⟨rfl, hhs, hmd, _, hl1, hl2, _⟩ := hf
  obtain ⟨b0, b1, b2, b3, d0, d1, d2, d3, hg⟩ := he.form
  obtain ⟨rfl, hva, hfi, hme, hpl, g0, g1, g2, g3⟩ := hg
  dsimp only [Pg.PV.val, Pg.EV.val] at HWD HCL ⊢
  have bx := alloc_heap W (.cells #[.string s, .slice a1 P.hs.length m1, .slice a2 P.md.length m2, .slice a3 n3 m3, .slice a4 n4 m4, .slice a5 n5 m5, .slice a6 n6 m6, .slice a7 n7 m7, .slice a8 P.dp.length m8] 61)
  have k0 := alw (cell_of (o := 0) bx)
  have k1 := alw (cell_of (o := 1) bx)
  have k2 := alw (cell_of (o := 2) bx)
  have k3 := alw (cell_of (o := 3) bx)
  have k4 := alw (cell_of (o := 4) bx)
  have k5 := alw (cell_of (o := 5) bx)
  have k6 := alw (cell_of (o := 6) bx)
  have k7 := alw (cell_of (o := 7) bx)
  have k8 := alw (cell_of (o := 8) bx)
  clear bx
  have bx := alloc_heap (W.alloc (.cells #[.string s, .slice a1 P.hs.length m1, .slice a2 P.md.length m2, .slice a3 n3 m3, .slice a4 n4 m4, .slice a5 n5 m5, .slice a6 n6 m6, .slice a7 n7 m7, .slice a8 P.dp.length m8] 61)) (.cells #[.slice b0 E.va.length d0, .slice b1 E.fi.length d1, .slice b2 E.me.length d2, .slice b3 E.pl.length d3] 65)
  rw [World.size_alloc] at bx
  have em0 := alw (cell_of (o := 0) bx)
  have em1 := alw (cell_of (o := 1) bx)
  have em2 := alw (cell_of (o := 2) bx)
  have em3 := alw (cell_of (o := 3) bx)
  clear bx
  have bx := alloc_heap ((W.alloc (.cells #[.string s, .slice a1 P.hs.length m1, .slice a2 P.md.length m2, .slice a3 n3 m3, .slice a4 n4 m4, .slice a5 n5 m5, .slice a6 n6 m6, .slice a7 n7 m7, .slice a8 P.dp.length m8] 61)).alloc (.cells #[.slice b0 E.va.length d0, .slice b1 E.fi.length d1, .slice b2 E.me.length d2, .slice b3 E.pl.length d3] 65)) (.cells #[.int .i64 h, .int .i64 f] 67)
  rw [World.size_alloc, World.size_alloc] at bx
  have j0 := alw (cell_of (o := 0) bx)
  have j1 := alw (cell_of (o := 1) bx)
  clear bx
  have bx := alloc_heap (((W.alloc (.cells #[.string s, .slice a1 P.hs.length m1, .slice a2 P.md.length m2, .slice a3 n3 m3, .slice a4 n4 m4, .slice a5 n5 m5, .slice a6 n6 m6, .slice a7 n7 m7, .slice a8 P.dp.length m8] 61)).alloc (.cells #[.slice b0 E.va.length d0, .slice b1 E.fi.length d1, .slice b2 E.me.length d2, .slice b3 E.pl.length d3] 65)).alloc (.cells #[.int .i64 h, .int .i64 f] 67)) (.cells #[.slice none 0 0, .slice none 0 0, .slice none 0 0, .slice none 0 0] 65)
  rw [World.size_alloc, World.size_alloc, World.size_alloc] at bx
  have r0 := alw (cell_of (o := 0) bx)
  have r1 := alw (cell_of (o := 1) bx)
  have r2 := alw (cell_of (o := 2) bx)
  have r3 := alw (cell_of (o := 3) bx)
  have er0 := alwF (o := 0) bx
  have er1 := alwF (o := 1) bx
  have er2 := alwF (o := 2) bx
  have er3 := alwF (o := 3) bx
  have BR := Lib.hid bx
  clear bx
  clear hp he hhs hmd hva hfi hme hpl hc
  cases hel : En.elB E h f with
  | false =>
    have HS := Lib.hid (En.set_el (P := P) (v := v) hel)
    obtain ⟨wd, hwd⟩ : ∃ wd, wd = Pg.wid P h f := ⟨_, rfl⟩
    rw [← hwd] at HWD
    clear hwd
    go_enter Try.func43, Try.ntmps43
    go_wp2_with fail
    refine (HCL.out _ grows).mono ?_
    rintro e w1 ⟨ev, vs, rfl, x1, o1⟩
    have s1 := Step.mk x1
    obtain ⟨q0, q1, q2, q3, t0, t1, t2, t3, hg⟩ := o1.isE.form
    obtain ⟨rfl, jva, jfi, jme, jpl, l0, l1, l2, l3⟩ := hg
    dsimp only [Pg.EV.val]
    have bo := alloc_heap w1 (.cells #[.slice q0 E.va.length t0, .slice q1 E.fi.length t1, .slice q2 E.me.length t2, .slice q3 E.pl.length t3] 65)
    have ob0 := alw (cell_of (o := 0) bo)
    have ob1 := alw (cell_of (o := 1) bo)
    have ob2 := alw (cell_of (o := 2) bo)
    have ob3 := alw (cell_of (o := 3) bo)
    have HBO := Lib.hid bo
    clear bo
    obtain ⟨u, hl, hn, _, hu⟩ := element_any o1.isE h f
    rw [hel] at hu
    obtain ⟨ua, uc, rfl⟩ := ns_slice hn
    have HU := Lib.hid hu
    have O1 := Lib.hid o1
    clear o1 jva jfi jme jpl hl hn hu x1 hel
    dsimp only [Pg.EV.val] at HU
    go_wp2_with fail
    refine (HWD.out _ grows).mono ?_
    rintro e w2 ⟨rfl, xw2⟩
    have sw2 := Step.mk xw2
    go_wp2_with fail
    refine (HU.out _ grows).mono ?_
    rintro e w3 ⟨rfl, xw3⟩
    have sw3 := Step.mk xw3
    go_wp2_with fail
    obtain ⟨w4, h4⟩ : ∃ w4, w4 = ((((w3.setCell ⟨W.heap.size + 1 + 1 + 1, 0, none⟩ (.slice q0 E.va.length t0)).setCell ⟨W.heap.size + 1 + 1 + 1, 1, none⟩ (.slice q1 E.fi.length t1)).setCell ⟨W.heap.size + 1 + 1 + 1, 2, none⟩ (.slice q2 E.me.length t2)).setCell ⟨W.heap.size + 1 + 1 + 1, 3, none⟩ (.slice q3 E.pl.length t3)) := ⟨_, rfl⟩
    rw [← h4]
    obtain ⟨m4, b4⟩ := tower4 (.slice q0 E.va.length t0) (.slice q1 E.fi.length t1) (.slice q2 E.me.length t2) (.slice q3 E.pl.length t3) (alwB BR.out w3)
    rw [← h4] at m4 b4
    have z0 : w4.cell? ⟨W.heap.size + 1 + 1 + 1, 0, none⟩ = some (.slice q0 E.va.length t0) := by rw [cell_of b4]; rfl
    have z1 : w4.cell? ⟨W.heap.size + 1 + 1 + 1, 1, none⟩ = some (.slice q1 E.fi.length t1) := by rw [cell_of b4]; rfl
    have z2 : w4.cell? ⟨W.heap.size + 1 + 1 + 1, 2, none⟩ = some (.slice q2 E.me.length t2) := by rw [cell_of b4]; rfl
    have z3 : w4.cell? ⟨W.heap.size + 1 + 1 + 1, 3, none⟩ = some (.slice q3 E.pl.length t3) := by rw [cell_of b4]; rfl
    clear h4
    refine bodyPost_ret (v := .agg #[.slice q0 E.va.length t0, .slice q1 E.fi.length t1, .slice q2 E.me.length t2, .slice q3 E.pl.length t3]) (by simp [results, Try.results43, go_sem, z0, z1, z2, z3]) rfl ?_
    have h9 := (O1.out.ext (grows (a := w1) (b := w3))).box m4 (alwB BR.out w3)
    have gw : Ext W w3 := grows
    rw [HS.out]
    exact env_ret (Ext.mod gw m4 (fun k hk => by subst hk; omega)) (h9.base (by simp only [World.size_alloc]; omega))
  | true =>
    cases hwk : Bv.ok (Pg.wid P h f) with
    | false =>
      have HS := Lib.hid (En.set_wid (E := E) (v := v) hwk)
      rw [En.wid_no hwk] at HWD
      clear hwk
      go_enter Try.func43, Try.ntmps43
      go_wp2_with fail
      refine (HCL.out _ grows).mono ?_
      rintro e w1 ⟨ev, vs, rfl, x1, o1⟩
      have s1 := Step.mk x1
      obtain ⟨q0, q1, q2, q3, t0, t1, t2, t3, hg⟩ := o1.isE.form
      obtain ⟨rfl, jva, jfi, jme, jpl, l0, l1, l2, l3⟩ := hg
      dsimp only [Pg.EV.val]
      have bo := alloc_heap w1 (.cells #[.slice q0 E.va.length t0, .slice q1 E.fi.length t1, .slice q2 E.me.length t2, .slice q3 E.pl.length t3] 65)
      have ob0 := alw (cell_of (o := 0) bo)
      have ob1 := alw (cell_of (o := 1) bo)
      have ob2 := alw (cell_of (o := 2) bo)
      have ob3 := alw (cell_of (o := 3) bo)
      have HBO := Lib.hid bo
      clear bo
      obtain ⟨u, hl, hn, _, hu⟩ := element_any o1.isE h f
      rw [hel] at hu
      obtain ⟨ua, uc, rfl⟩ := ns_slice hn
      have HU := Lib.hid hu
      have O1 := Lib.hid o1
      clear o1 jva jfi jme jpl hl hn hu x1 hel
      dsimp only [Pg.EV.val] at HU
      go_wp2_with fail
      refine (HWD.out _ grows).mono ?_
      rintro e w2 ⟨rfl, xw2⟩
      have sw2 := Step.mk xw2
      go_wp2_with fail
      refine (HU.out _ grows).mono ?_
      rintro e w3 ⟨rfl, xw3⟩
      have sw3 := Step.mk xw3
      go_wp2_with fail
      obtain ⟨w4, h4⟩ : ∃ w4, w4 = ((((w3.setCell ⟨W.heap.size + 1 + 1 + 1, 0, none⟩ (.slice q0 E.va.length t0)).setCell ⟨W.heap.size + 1 + 1 + 1, 1, none⟩ (.slice q1 E.fi.length t1)).setCell ⟨W.heap.size + 1 + 1 + 1, 2, none⟩ (.slice q2 E.me.length t2)).setCell ⟨W.heap.size + 1 + 1 + 1, 3, none⟩ (.slice q3 E.pl.length t3)) := ⟨_, rfl⟩
      rw [← h4]
      obtain ⟨m4, b4⟩ := tower4 (.slice q0 E.va.length t0) (.slice q1 E.fi.length t1) (.slice q2 E.me.length t2) (.slice q3 E.pl.length t3) (alwB BR.out w3)
      rw [← h4] at m4 b4
      have z0 : w4.cell? ⟨W.heap.size + 1 + 1 + 1, 0, none⟩ = some (.slice q0 E.va.length t0) := by rw [cell_of b4]; rfl
      have z1 : w4.cell? ⟨W.heap.size + 1 + 1 + 1, 1, none⟩ = some (.slice q1 E.fi.length t1) := by rw [cell_of b4]; rfl
      have z2 : w4.cell? ⟨W.heap.size + 1 + 1 + 1, 2, none⟩ = some (.slice q2 E.me.length t2) := by rw [cell_of b4]; rfl
      have z3 : w4.cell? ⟨W.heap.size + 1 + 1 + 1, 3, none⟩ = some (.slice q3 E.pl.length t3) := by rw [cell_of b4]; rfl
      clear h4
      refine bodyPost_ret (v := .agg #[.slice q0 E.va.length t0, .slice q1 E.fi.length t1, .slice q2 E.me.length t2, .slice q3 E.pl.length t3]) (by simp [results, Try.results43, go_sem, z0, z1, z2, z3]) rfl ?_
      have h9 := (O1.out.ext (grows (a := w1) (b := w3))).box m4 (alwB BR.out w3)
      have gw : Ext W w3 := grows
      rw [HS.out]
      exact env_ret (Ext.mod gw m4 (fun k hk => by subst hk; omega)) (h9.base (by simp only [World.size_alloc]; omega))
    | true =>
      obtain ⟨k, rfl, _⟩ := En.elB_get hel
      obtain ⟨m, hm, hm1, hm2⟩ := En.wid_ok hwk
      have HS : Hid (En.set P E h k v = En.put E h k (Bv.red v m)) := Lib.hid (by rw [En.set_yes hel hwk, hm])
      rw [hm] at HWD
      obtain ⟨M, hM⟩ : ∃ M, M = Bv.mask m := ⟨_, rfl⟩
      have hM1 := (Bv.mask_bd m).2
      have hM0 := (Bv.mask_bd m).1
      rw [← hM] at hM0 hM1
      have HM : Hid (∀ w, Calls Try.prog 75 #[.int .i64 m] w (Rets w (.int .u32 M))) := Lib.hid (fun w => by have h := mask_any m w; rw [← hM] at h; exact h)
      have HAM : Hid (bits .and .u32 v M = Bv.red v m) := Lib.hid (by rw [hM]; exact Bv.and_mask v0 v1)
      have HRB := Lib.hid (Bv.red_bd v m)
      clear hwk hm hM
      go_enter Try.func43, Try.ntmps43
      go_wp2_with fail
      refine (HCL.out _ grows).mono ?_
      rintro e w1 ⟨ev, vs, rfl, x1, o1⟩
      have s1 := Step.mk x1
      obtain ⟨q0, q1, q2, q3, t0, t1, t2, t3, hg⟩ := o1.isE.form
      obtain ⟨rfl, jva, jfi, jme, jpl, l0, l1, l2, l3⟩ := hg
      dsimp only [Pg.EV.val]
      have bo := alloc_heap w1 (.cells #[.slice q0 E.va.length t0, .slice q1 E.fi.length t1, .slice q2 E.me.length t2, .slice q3 E.pl.length t3] 65)
      have ob0 := alw (cell_of (o := 0) bo)
      have ob1 := alw (cell_of (o := 1) bo)
      have ob2 := alw (cell_of (o := 2) bo)
      have ob3 := alw (cell_of (o := 3) bo)
      have HBO := Lib.hid bo
      clear bo
      obtain ⟨u, hl, _, _, hu⟩ := element_any o1.isE h k
      rw [hel] at hu
      obtain ⟨g, n, c, y, rfl, z1, z2, z3, a1, a2, a3, a4, a5⟩ := o1.elem hl hel
      unfold maxLen at z3
      have HU := Lib.hid hu
      have H5 := Lib.hid a5
      clear o1 jva jfi jme jpl hl hu x1 hel a5
      dsimp only [Pg.EV.val] at HU
      go_wp2_with fail
      refine (HWD.out _ grows).mono ?_
      rintro e w2 ⟨rfl, xw2⟩
      have sw2 := Step.mk xw2
      go_wp2_with fail
      refine (HU.out _ grows).mono ?_
      rintro e w3 ⟨rfl, xw3⟩
      have sw3 := Step.mk xw3
      go_wp2_with fail
      refine wp_region_later_tail 8 (by kernel_rfl) (by kernel_rfl) (Ext.refl _) ?_
      simp only [List.take_succ_cons, List.take_zero, List.drop_succ_cons, List.drop_zero]
      repeat (go_big_quiet_step (first | (go_at_call 75; exact Rets.later_at (HM.out _))))
      refine wpQuiet_nil ?_
      intro w5 x5
      have s5 := Step.mk x5
      refine wpList_store_cell rfl 39 (.tmp 36) (.tmp 35) rfl g k y (.int .u32 (bits .and .u32 v M)) rfl rfl (by kernel_rfl) rfl (a1 w5) (a2 w5) ?_
      intro w6 e6
      have ho6 : w6.heap[w1.heap.size]? = some (.cells #[.slice q0 E.va.length t0, .slice q1 E.fi.length t1, .slice q2 E.me.length t2, .slice q3 E.pl.length t3] 65) := by rw [e6]; exact heap_set_ne (alwB HBO.out _) (by show w1.heap.size ≠ g; omega)
      have hr6 : w6.heap[W.heap.size + 1 + 1 + 1]? = some (.cells #[.slice none 0 0, .slice none 0 0, .slice none 0 0, .slice none 0 0] 65) := by rw [e6]; exact heap_set_ne (alwB BR.out _) (by show W.heap.size + 1 + 1 + 1 ≠ g; simp only [World.size_alloc] at a3; omega)
      have c0 : w6.cell? ⟨w1.heap.size, 0, none⟩ = some (.slice q0 E.va.length t0) := by rw [cell_of ho6]; rfl
      have n0 : w6.cell? ⟨W.heap.size + 1 + 1 + 1, 0, none⟩ = some (.slice none 0 0) := by rw [cell_of hr6]; rfl
      have u0 : w6.frozen? ⟨W.heap.size + 1 + 1 + 1, 0, none⟩ = false := free_of hr6
      have c1 : w6.cell? ⟨w1.heap.size, 1, none⟩ = some (.slice q1 E.fi.length t1) := by rw [cell_of ho6]; rfl
      have n1 : w6.cell? ⟨W.heap.size + 1 + 1 + 1, 1, none⟩ = some (.slice none 0 0) := by rw [cell_of hr6]; rfl
      have u1 : w6.frozen? ⟨W.heap.size + 1 + 1 + 1, 1, none⟩ = false := free_of hr6
      have c2 : w6.cell? ⟨w1.heap.size, 2, none⟩ = some (.slice q2 E.me.length t2) := by rw [cell_of ho6]; rfl
      have n2 : w6.cell? ⟨W.heap.size + 1 + 1 + 1, 2, none⟩ = some (.slice none 0 0) := by rw [cell_of hr6]; rfl
      have u2 : w6.frozen? ⟨W.heap.size + 1 + 1 + 1, 2, none⟩ = false := free_of hr6
      have c3 : w6.cell? ⟨w1.heap.size, 3, none⟩ = some (.slice q3 E.pl.length t3) := by rw [cell_of ho6]; rfl
      have n3 : w6.cell? ⟨W.heap.size + 1 + 1 + 1, 3, none⟩ = some (.slice none 0 0) := by rw [cell_of hr6]; rfl
      have u3 : w6.frozen? ⟨W.heap.size + 1 + 1 + 1, 3, none⟩ = false := free_of hr6
      have HR6 := Lib.hid hr6
      clear ho6 hr6
      have E6 := Lib.hid e6
      have X5 : Hid (Ext w1 w5) := Lib.hid grows
      have XW : Hid (Ext W w5) := Lib.hid grows
      clear e6
      go_wp2_with fail
      obtain ⟨w4, h4⟩ : ∃ w4, w4 = ((((w6.setCell ⟨W.heap.size + 1 + 1 + 1, 0, none⟩ (.slice q0 E.va.length t0)).setCell ⟨W.heap.size + 1 + 1 + 1, 1, none⟩ (.slice q1 E.fi.length t1)).setCell ⟨W.heap.size + 1 + 1 + 1, 2, none⟩ (.slice q2 E.me.length t2)).setCell ⟨W.heap.size + 1 + 1 + 1, 3, none⟩ (.slice q3 E.pl.length t3)) := ⟨_, rfl⟩
      rw [← h4]
      obtain ⟨m4, b4⟩ := tower4 (.slice q0 E.va.length t0) (.slice q1 E.fi.length t1) (.slice q2 E.me.length t2) (.slice q3 E.pl.length t3) HR6.out
      rw [← h4] at m4 b4
      have z0 : w4.cell? ⟨W.heap.size + 1 + 1 + 1, 0, none⟩ = some (.slice q0 E.va.length t0) := by rw [cell_of b4]; rfl
      have z1 : w4.cell? ⟨W.heap.size + 1 + 1 + 1, 1, none⟩ = some (.slice q1 E.fi.length t1) := by rw [cell_of b4]; rfl
      have z2 : w4.cell? ⟨W.heap.size + 1 + 1 + 1, 2, none⟩ = some (.slice q2 E.me.length t2) := by rw [cell_of b4]; rfl
      have z3 : w4.cell? ⟨W.heap.size + 1 + 1 + 1, 3, none⟩ = some (.slice q3 E.pl.length t3) := by rw [cell_of b4]; rfl
      clear h4
      refine bodyPost_ret (v := .agg #[.slice q0 E.va.length t0, .slice q1 E.fi.length t1, .slice q2 E.me.length t2, .slice q3 E.pl.length t3]) (by simp [results, Try.results43, go_sem, z0, z1, z2, z3]) rfl ?_
      have h9 := (H5.out w5 (Bv.red v m) X5.out HRB.out)
      have e7 := E6.out
      rw [HAM.out] at e7
      rw [← e7] at h9
      have gw : Ext W w6 := by rw [e7]; exact Ext.setCell XW.out (by simp only [World.size_alloc] at a3; show W.heap.size ≤ g; omega) _
      rw [HS.out]
      exact env_ret (Ext.mod gw m4 (fun k hk => by subst hk; omega)) ((h9.box m4 HR6.out).base (by simp only [World.size_alloc]; omega))
end Go.Proofs.Ytdgepbolfflidaa
namespace Go.Proofs.Ytdgepbolfflidaa
open Go.RowKit

set_option maxRecDepth 8000 in
set_option maxHeartbeats 4000000 in
theorem refset_any {W : World} {p : Pg.PV} {P : Pg.Prog} {e : Pg.EV} {E : Pg.Env} (hp : Pg.IsP W p P) (he : Pg.IsE W e E) (hc : En.CapE E) (h f v : Int) (v0 : 0 ≤ v) (v1 : v < 4294967296) :
    Calls Try.prog 44 #[p.val, e.val, .agg #[.int .i64 h, .int .i64 f], .int .u32 v] W (EnvP W (En.set P E h f v)) := by
  have HWD := Lib.hid (fun w (hx : Ext W w) => rwidth_any (hp.ext hx) h f)
  have HCL := Lib.hid (fun w (hx : Ext W w) => refclone_any (he.ext hx) hc)
  have HEL := Lib.hid (fun w (hx : Ext W w) => refel_any (he.ext hx) h f)
  have HHA := Lib.hid (fun w (hx : Ext W w) => has12_any (he.ext hx) h)
  obtain ⟨s, a1, a2, a3, a4, a5, a6, a7, a8, m1, m2, n3, m3, n4, m4, n5, m5, n6, m6, n7, m7, m8, hf⟩ := hp.form
  obtain ⟨rfl, hhs, hmd, _, hl1, hl2, _⟩ := hf
  obtain ⟨b0, b1, b2, b3, d0, d1, d2, d3, hg⟩ := he.form
  obtain ⟨rfl, hva, hfi, hme, hpl, g0, g1, g2, g3⟩ := hg
  dsimp only [Pg.PV.val, Pg.EV.val] at HWD HCL HEL HHA ⊢
  have bx := alloc_heap W (.cells #[.string s, .slice a1 P.hs.length m1, .slice a2 P.md.length m2, .slice a3 n3 m3, .slice a4 n4 m4, .slice a5 n5 m5, .slice a6 n6 m6, .slice a7 n7 m7, .slice a8 P.dp.length m8] 61)
  have k0 := alw (cell_of (o := 0) bx)
  have k1 := alw (cell_of (o := 1) bx)
  have k2 := alw (cell_of (o := 2) bx)
  have k3 := alw (cell_of (o := 3) bx)
  have k4 := alw (cell_of (o := 4) bx)
  have k5 := alw (cell_of (o := 5) bx)
  have k6 := alw (cell_of (o := 6) bx)
  have k7 := alw (cell_of (o := 7) bx)
  have k8 := alw (cell_of (o := 8) bx)
  clear bx
  have bx := alloc_heap (W.alloc (.cells #[.string s, .slice a1 P.hs.length m1, .slice a2 P.md.length m2, .slice a3 n3 m3, .slice a4 n4 m4, .slice a5 n5 m5, .slice a6 n6 m6, .slice a7 n7 m7, .slice a8 P.dp.length m8] 61)) (.cells #[.slice b0 E.va.length d0, .slice b1 E.fi.length d1, .slice b2 E.me.length d2, .slice b3 E.pl.length d3] 65)
  rw [World.size_alloc] at bx
  have em0 := alw (cell_of (o := 0) bx)
  have em1 := alw (cell_of (o := 1) bx)
  have em2 := alw (cell_of (o := 2) bx)
  have em3 := alw (cell_of (o := 3) bx)
  clear bx
  have bx := alloc_heap ((W.alloc (.cells #[.string s, .slice a1 P.hs.length m1, .slice a2 P.md.length m2, .slice a3 n3 m3, .slice a4 n4 m4, .slice a5 n5 m5, .slice a6 n6 m6, .slice a7 n7 m7, .slice a8 P.dp.length m8] 61)).alloc (.cells #[.slice b0 E.va.length d0, .slice b1 E.fi.length d1, .slice b2 E.me.length d2, .slice b3 E.pl.length d3] 65)) (.cells #[.int .i64 h, .int .i64 f] 67)
  rw [World.size_alloc, World.size_alloc] at bx
  have j0 := alw (cell_of (o := 0) bx)
  have j1 := alw (cell_of (o := 1) bx)
  clear bx
  have bx := alloc_heap (((W.alloc (.cells #[.string s, .slice a1 P.hs.length m1, .slice a2 P.md.length m2, .slice a3 n3 m3, .slice a4 n4 m4, .slice a5 n5 m5, .slice a6 n6 m6, .slice a7 n7 m7, .slice a8 P.dp.length m8] 61)).alloc (.cells #[.slice b0 E.va.length d0, .slice b1 E.fi.length d1, .slice b2 E.me.length d2, .slice b3 E.pl.length d3] 65)).alloc (.cells #[.int .i64 h, .int .i64 f] 67)) (.cells #[.slice none 0 0, .slice none 0 0, .slice none 0 0, .slice none 0 0] 65)
  rw [World.size_alloc, World.size_alloc, World.size_alloc] at bx
  have r0 := alw (cell_of (o := 0) bx)
  have r1 := alw (cell_of (o := 1) bx)
  have r2 := alw (cell_of (o := 2) bx)
  have r3 := alw (cell_of (o := 3) bx)
  have er0 := alwF (o := 0) bx
  have er1 := alwF (o := 1) bx
  have er2 := alwF (o := 2) bx
  have er3 := alwF (o := 3) bx
  have BR := Lib.hid bx
  clear bx
  clear hp he hhs hmd hva hfi hme hpl hc
  cases hwk : Bv.ok (Pg.wid P h f) with
  | false =>
    have HS := Lib.hid (En.set_wid (E := E) (v := v) hwk)
    rw [En.wid_no hwk] at HWD
    clear hwk
    go_enter Try.func44, Try.ntmps44
    go_wp2_with fail
    refine (HCL.out _ grows).mono ?_
    rintro e w1 ⟨ev, vs, rfl, x1, o1⟩
    have s1 := Step.mk x1
    obtain ⟨q0, q1, q2, q3, t0, t1, t2, t3, hg⟩ := o1.isE.form
    obtain ⟨rfl, jva, jfi, jme, jpl, l0, l1, l2, l3⟩ := hg
    dsimp only [Pg.EV.val]
    have bo := alloc_heap w1 (.cells #[.slice q0 E.va.length t0, .slice q1 E.fi.length t1, .slice q2 E.me.length t2, .slice q3 E.pl.length t3] 65)
    have ob0 := alw (cell_of (o := 0) bo)
    have ob1 := alw (cell_of (o := 1) bo)
    have ob2 := alw (cell_of (o := 2) bo)
    have ob3 := alw (cell_of (o := 3) bo)
    have HBO := Lib.hid bo
    clear bo
    have O1 := Lib.hid o1
    clear o1 jva jfi jme jpl x1
    go_wp2_with fail
    refine (HWD.out _ grows).mono ?_
    rintro e w2 ⟨rfl, xw2⟩
    have sw2 := Step.mk xw2
    go_wp2_with fail
    obtain ⟨w4, h4⟩ : ∃ w4, w4 = ((((w2.setCell ⟨W.heap.size + 1 + 1 + 1, 0, none⟩ (.slice q0 E.va.length t0)).setCell ⟨W.heap.size + 1 + 1 + 1, 1, none⟩ (.slice q1 E.fi.length t1)).setCell ⟨W.heap.size + 1 + 1 + 1, 2, none⟩ (.slice q2 E.me.length t2)).setCell ⟨W.heap.size + 1 + 1 + 1, 3, none⟩ (.slice q3 E.pl.length t3)) := ⟨_, rfl⟩
    rw [← h4]
    obtain ⟨m4, b4⟩ := tower4 (.slice q0 E.va.length t0) (.slice q1 E.fi.length t1) (.slice q2 E.me.length t2) (.slice q3 E.pl.length t3) (alwB BR.out w2)
    rw [← h4] at m4 b4
    have z0 : w4.cell? ⟨W.heap.size + 1 + 1 + 1, 0, none⟩ = some (.slice q0 E.va.length t0) := by rw [cell_of b4]; rfl
    have z1 : w4.cell? ⟨W.heap.size + 1 + 1 + 1, 1, none⟩ = some (.slice q1 E.fi.length t1) := by rw [cell_of b4]; rfl
    have z2 : w4.cell? ⟨W.heap.size + 1 + 1 + 1, 2, none⟩ = some (.slice q2 E.me.length t2) := by rw [cell_of b4]; rfl
    have z3 : w4.cell? ⟨W.heap.size + 1 + 1 + 1, 3, none⟩ = some (.slice q3 E.pl.length t3) := by rw [cell_of b4]; rfl
    clear h4
    refine bodyPost_ret (v := .agg #[.slice q0 E.va.length t0, .slice q1 E.fi.length t1, .slice q2 E.me.length t2, .slice q3 E.pl.length t3]) (by simp [results, Try.results44, go_sem, z0, z1, z2, z3]) rfl ?_
    have h9 := (O1.out.ext (grows (a := w1) (b := w2))).box m4 (alwB BR.out w2)
    have gw : Ext W w2 := grows
    rw [HS.out]
    exact env_ret (Ext.mod gw m4 (fun k hk => by subst hk; omega)) (h9.base (by simp only [World.size_alloc]; omega))
  | true =>
    obtain ⟨m, hm, hm1, hm2⟩ := En.wid_ok hwk
    rw [hm] at HWD
    have hmb : ((m : Int) == 0) = false := by rw [beq_eq_false_iff_ne]; omega
    cases hrb : En.refB E h f with
    | false =>
      have HS := Lib.hid (En.set_el (P := P) (v := v) (show En.elB E h f = false by
        by_cases hh : h = -1
        · subst hh; rw [En.elB_meta, hrb]
        · rw [En.elB_ref hh, hrb]; rfl))
      rw [hrb] at HEL
      clear hwk hrb hm
      go_enter Try.func44, Try.ntmps44
      go_wp2_with fail
      refine (HCL.out _ grows).mono ?_
      rintro e w1 ⟨ev, vs, rfl, x1, o1⟩
      have s1 := Step.mk x1
      obtain ⟨q0, q1, q2, q3, t0, t1, t2, t3, hg⟩ := o1.isE.form
      obtain ⟨rfl, jva, jfi, jme, jpl, l0, l1, l2, l3⟩ := hg
      dsimp only [Pg.EV.val]
      have bo := alloc_heap w1 (.cells #[.slice q0 E.va.length t0, .slice q1 E.fi.length t1, .slice q2 E.me.length t2, .slice q3 E.pl.length t3] 65)
      have ob0 := alw (cell_of (o := 0) bo)
      have ob1 := alw (cell_of (o := 1) bo)
      have ob2 := alw (cell_of (o := 2) bo)
      have ob3 := alw (cell_of (o := 3) bo)
      have HBO := Lib.hid bo
      clear bo
      have O1 := Lib.hid o1
      clear o1 jva jfi jme jpl x1
      go_wp2_with fail
      refine (HWD.out _ grows).mono ?_
      rintro e w2 ⟨rfl, xw2⟩
      have sw2 := Step.mk xw2
      go_wp2_with fail
      refine (HEL.out _ grows).mono ?_
      rintro e w3 ⟨rfl, xw3⟩
      have sw3 := Step.mk xw3
      go_wp2_with fail
      obtain ⟨w4, h4⟩ : ∃ w4, w4 = ((((w3.setCell ⟨W.heap.size + 1 + 1 + 1, 0, none⟩ (.slice q0 E.va.length t0)).setCell ⟨W.heap.size + 1 + 1 + 1, 1, none⟩ (.slice q1 E.fi.length t1)).setCell ⟨W.heap.size + 1 + 1 + 1, 2, none⟩ (.slice q2 E.me.length t2)).setCell ⟨W.heap.size + 1 + 1 + 1, 3, none⟩ (.slice q3 E.pl.length t3)) := ⟨_, rfl⟩
      rw [← h4]
      obtain ⟨m4, b4⟩ := tower4 (.slice q0 E.va.length t0) (.slice q1 E.fi.length t1) (.slice q2 E.me.length t2) (.slice q3 E.pl.length t3) (alwB BR.out w3)
      rw [← h4] at m4 b4
      have z0 : w4.cell? ⟨W.heap.size + 1 + 1 + 1, 0, none⟩ = some (.slice q0 E.va.length t0) := by rw [cell_of b4]; rfl
      have z1 : w4.cell? ⟨W.heap.size + 1 + 1 + 1, 1, none⟩ = some (.slice q1 E.fi.length t1) := by rw [cell_of b4]; rfl
      have z2 : w4.cell? ⟨W.heap.size + 1 + 1 + 1, 2, none⟩ = some (.slice q2 E.me.length t2) := by rw [cell_of b4]; rfl
      have z3 : w4.cell? ⟨W.heap.size + 1 + 1 + 1, 3, none⟩ = some (.slice q3 E.pl.length t3) := by rw [cell_of b4]; rfl
      clear h4
      refine bodyPost_ret (v := .agg #[.slice q0 E.va.length t0, .slice q1 E.fi.length t1, .slice q2 E.me.length t2, .slice q3 E.pl.length t3]) (by simp [results, Try.results44, go_sem, z0, z1, z2, z3]) rfl ?_
      have h9 := (O1.out.ext (grows (a := w1) (b := w3))).box m4 (alwB BR.out w3)
      have gw : Ext W w3 := grows
      rw [HS.out]
      exact env_ret (Ext.mod gw m4 (fun k hk => by subst hk; omega)) (h9.base (by simp only [World.size_alloc]; omega))
    | true =>
      rw [hrb] at HEL
      by_cases hh : h = -1
      · subst hh
        have hel : En.elB E (-1) f = true := by rw [En.elB_meta, hrb]
        obtain ⟨k, rfl, _⟩ := En.elB_get hel
        obtain ⟨R, hR⟩ : ∃ R, R = Bv.red v m := ⟨_, rfl⟩
        have HS : Hid (En.set P E (-1) k v = En.put E (-1) k R) := Lib.hid (by rw [En.set_yes hel hwk, hm, hR])
        have HM : Hid (∀ w, Calls Try.prog 83 #[.int .u32 v, .int .i64 m] w (Rets w (.int .u32 R))) := Lib.hid (fun w => by have h := Rets.of_eq (modulo_any (W := w) v m v0 v1 hm1 hm2); rw [← hR] at h; exact h)
        have HRB : Hid (U32 R) := Lib.hid (by rw [hR]; exact Bv.red_bd v m)
        clear hwk hrb hm hR
        go_enter Try.func44, Try.ntmps44
        go_wp2_with fail
        refine (HCL.out _ grows).mono ?_
        rintro e w1 ⟨ev, vs, rfl, x1, o1⟩
        have s1 := Step.mk x1
        obtain ⟨q0, q1, q2, q3, t0, t1, t2, t3, hg⟩ := o1.isE.form
        obtain ⟨rfl, jva, jfi, jme, jpl, l0, l1, l2, l3⟩ := hg
        dsimp only [Pg.EV.val]
        have bo := alloc_heap w1 (.cells #[.slice q0 E.va.length t0, .slice q1 E.fi.length t1, .slice q2 E.me.length t2, .slice q3 E.pl.length t3] 65)
        have ob0 := alw (cell_of (o := 0) bo)
        have ob1 := alw (cell_of (o := 1) bo)
        have ob2 := alw (cell_of (o := 2) bo)
        have ob3 := alw (cell_of (o := 3) bo)
        have HBO := Lib.hid bo
        clear bo
        obtain ⟨u, hl, _, _, _⟩ := element_any o1.isE (-1) k
        obtain ⟨g, n, c, y, rfl, z1, z2, z3, a1, a2, a3, a4, a5⟩ := o1.elem hl hel
        have hl1 := hl.1 rfl
        simp only [Value.slice.injEq] at hl1
        obtain ⟨rfl, rfl, rfl⟩ := hl1
        unfold maxLen at z3
        have H5 := Lib.hid a5
        clear hl hel a5
        clear o1 jva jfi jme jpl x1
        go_wp2_with fail
        refine (HWD.out _ grows).mono ?_
        rintro e w2 ⟨rfl, xw2⟩
        have sw2 := Step.mk xw2
        go_wp2_with fail
        refine (HEL.out _ grows).mono ?_
        rintro e w3 ⟨rfl, xw3⟩
        have sw3 := Step.mk xw3
        go_wp2_with fail
        refine wp_region_later_tail 8 (by kernel_rfl) (by kernel_rfl) (Ext.refl _) ?_
        simp only [List.take_succ_cons, List.take_zero, List.drop_succ_cons, List.drop_zero]
        repeat (go_big_quiet_step (first | (go_at_call 83; exact Rets.later_at (HM.out _))))
        refine wpQuiet_nil ?_
        intro w5 x5
        have s5 := Step.mk x5
        refine wpList_store_cell rfl 39 (.tmp 47) (.tmp 46) rfl g k y (.int .u32 R) rfl rfl (by kernel_rfl) rfl (a1 w5) (a2 w5) ?_
        intro w6 e6
        have ho6 : w6.heap[w1.heap.size]? = some (.cells #[.slice q0 E.va.length t0, .slice q1 E.fi.length t1, .slice (some ⟨g, 0, none⟩) E.me.length c, .slice q3 E.pl.length t3] 65) := by rw [e6]; exact heap_set_ne (alwB HBO.out _) (by show w1.heap.size ≠ g; omega)
        have hr6 : w6.heap[W.heap.size + 1 + 1 + 1]? = some (.cells #[.slice none 0 0, .slice none 0 0, .slice none 0 0, .slice none 0 0] 65) := by rw [e6]; exact heap_set_ne (alwB BR.out _) (by show W.heap.size + 1 + 1 + 1 ≠ g; simp only [World.size_alloc] at a3; omega)
        have c0 : w6.cell? ⟨w1.heap.size, 0, none⟩ = some (.slice q0 E.va.length t0) := by rw [cell_of ho6]; rfl
        have n0 : w6.cell? ⟨W.heap.size + 1 + 1 + 1, 0, none⟩ = some (.slice none 0 0) := by rw [cell_of hr6]; rfl
        have u0 : w6.frozen? ⟨W.heap.size + 1 + 1 + 1, 0, none⟩ = false := free_of hr6
        have c1 : w6.cell? ⟨w1.heap.size, 1, none⟩ = some (.slice q1 E.fi.length t1) := by rw [cell_of ho6]; rfl
        have n1 : w6.cell? ⟨W.heap.size + 1 + 1 + 1, 1, none⟩ = some (.slice none 0 0) := by rw [cell_of hr6]; rfl
        have u1 : w6.frozen? ⟨W.heap.size + 1 + 1 + 1, 1, none⟩ = false := free_of hr6
        have c2 : w6.cell? ⟨w1.heap.size, 2, none⟩ = some (.slice (some ⟨g, 0, none⟩) E.me.length c) := by rw [cell_of ho6]; rfl
        have n2 : w6.cell? ⟨W.heap.size + 1 + 1 + 1, 2, none⟩ = some (.slice none 0 0) := by rw [cell_of hr6]; rfl
        have u2 : w6.frozen? ⟨W.heap.size + 1 + 1 + 1, 2, none⟩ = false := free_of hr6
        have c3 : w6.cell? ⟨w1.heap.size, 3, none⟩ = some (.slice q3 E.pl.length t3) := by rw [cell_of ho6]; rfl
        have n3 : w6.cell? ⟨W.heap.size + 1 + 1 + 1, 3, none⟩ = some (.slice none 0 0) := by rw [cell_of hr6]; rfl
        have u3 : w6.frozen? ⟨W.heap.size + 1 + 1 + 1, 3, none⟩ = false := free_of hr6
        have HR6 := Lib.hid hr6
        clear ho6 hr6
        have E6 := Lib.hid e6
        have X5 : Hid (Ext w1 w5) := Lib.hid grows
        have XW : Hid (Ext W w5) := Lib.hid grows
        clear e6
        go_wp2_with fail
        obtain ⟨w4, h4⟩ : ∃ w4, w4 = ((((w6.setCell ⟨W.heap.size + 1 + 1 + 1, 0, none⟩ (.slice q0 E.va.length t0)).setCell ⟨W.heap.size + 1 + 1 + 1, 1, none⟩ (.slice q1 E.fi.length t1)).setCell ⟨W.heap.size + 1 + 1 + 1, 2, none⟩ (.slice (some ⟨g, 0, none⟩) E.me.length c)).setCell ⟨W.heap.size + 1 + 1 + 1, 3, none⟩ (.slice q3 E.pl.length t3)) := ⟨_, rfl⟩
        rw [← h4]
        obtain ⟨m4, b4⟩ := tower4 (.slice q0 E.va.length t0) (.slice q1 E.fi.length t1) (.slice (some ⟨g, 0, none⟩) E.me.length c) (.slice q3 E.pl.length t3) HR6.out
        rw [← h4] at m4 b4
        have z0 : w4.cell? ⟨W.heap.size + 1 + 1 + 1, 0, none⟩ = some (.slice q0 E.va.length t0) := by rw [cell_of b4]; rfl
        have z1 : w4.cell? ⟨W.heap.size + 1 + 1 + 1, 1, none⟩ = some (.slice q1 E.fi.length t1) := by rw [cell_of b4]; rfl
        have z2 : w4.cell? ⟨W.heap.size + 1 + 1 + 1, 2, none⟩ = some (.slice (some ⟨g, 0, none⟩) E.me.length c) := by rw [cell_of b4]; rfl
        have z3 : w4.cell? ⟨W.heap.size + 1 + 1 + 1, 3, none⟩ = some (.slice q3 E.pl.length t3) := by rw [cell_of b4]; rfl
        clear h4
        refine bodyPost_ret (v := .agg #[.slice q0 E.va.length t0, .slice q1 E.fi.length t1, .slice (some ⟨g, 0, none⟩) E.me.length c, .slice q3 E.pl.length t3]) (by simp [results, Try.results44, go_sem, z0, z1, z2, z3]) rfl ?_
        have h9 := (H5.out w5 R X5.out HRB.out)
        have e7 := E6.out
        rw [← e7] at h9
        have gw : Ext W w6 := by rw [e7]; exact Ext.setCell XW.out (by simp only [World.size_alloc] at a3; show W.heap.size ≤ g; omega) _
        rw [HS.out]
        exact env_ret (Ext.mod gw m4 (fun k hk => by subst hk; omega)) ((h9.box m4 HR6.out).base (by simp only [World.size_alloc]; omega))
      · have hib : (h == -1) = false := by rw [beq_eq_false_iff_ne]; exact hh
        have hib2 : (h != -1) = true := by simpa using hh
        cases hv : En.vaAt E.va h with
        | false =>
          have HS := Lib.hid (En.set_el (P := P) (v := v) (show En.elB E h f = false by rw [En.elB_ref hh, hrb, hv]; rfl))
          rw [hv] at HHA
          clear hwk hrb hm hv hh
          go_enter Try.func44, Try.ntmps44
          go_wp2_with fail
          refine (HCL.out _ grows).mono ?_
          rintro e w1 ⟨ev, vs, rfl, x1, o1⟩
          have s1 := Step.mk x1
          obtain ⟨q0, q1, q2, q3, t0, t1, t2, t3, hg⟩ := o1.isE.form
          obtain ⟨rfl, jva, jfi, jme, jpl, l0, l1, l2, l3⟩ := hg
          dsimp only [Pg.EV.val]
          have bo := alloc_heap w1 (.cells #[.slice q0 E.va.length t0, .slice q1 E.fi.length t1, .slice q2 E.me.length t2, .slice q3 E.pl.length t3] 65)
          have ob0 := alw (cell_of (o := 0) bo)
          have ob1 := alw (cell_of (o := 1) bo)
          have ob2 := alw (cell_of (o := 2) bo)
          have ob3 := alw (cell_of (o := 3) bo)
          have HBO := Lib.hid bo
          clear bo
          have O1 := Lib.hid o1
          clear o1 jva jfi jme jpl x1
          go_wp2_with fail
          refine (HWD.out _ grows).mono ?_
          rintro e w2 ⟨rfl, xw2⟩
          have sw2 := Step.mk xw2
          go_wp2_with fail
          refine (HEL.out _ grows).mono ?_
          rintro e w3 ⟨rfl, xw3⟩
          have sw3 := Step.mk xw3
          go_wp2_with fail
          refine (HHA.out _ grows).mono ?_
          rintro e w7 ⟨rfl, xw7⟩
          have sw7 := Step.mk xw7
          go_wp2_with fail
          obtain ⟨w4, h4⟩ : ∃ w4, w4 = ((((w7.setCell ⟨W.heap.size + 1 + 1 + 1, 0, none⟩ (.slice q0 E.va.length t0)).setCell ⟨W.heap.size + 1 + 1 + 1, 1, none⟩ (.slice q1 E.fi.length t1)).setCell ⟨W.heap.size + 1 + 1 + 1, 2, none⟩ (.slice q2 E.me.length t2)).setCell ⟨W.heap.size + 1 + 1 + 1, 3, none⟩ (.slice q3 E.pl.length t3)) := ⟨_, rfl⟩
          rw [← h4]
          obtain ⟨m4, b4⟩ := tower4 (.slice q0 E.va.length t0) (.slice q1 E.fi.length t1) (.slice q2 E.me.length t2) (.slice q3 E.pl.length t3) (alwB BR.out w7)
          rw [← h4] at m4 b4
          have z0 : w4.cell? ⟨W.heap.size + 1 + 1 + 1, 0, none⟩ = some (.slice q0 E.va.length t0) := by rw [cell_of b4]; rfl
          have z1 : w4.cell? ⟨W.heap.size + 1 + 1 + 1, 1, none⟩ = some (.slice q1 E.fi.length t1) := by rw [cell_of b4]; rfl
          have z2 : w4.cell? ⟨W.heap.size + 1 + 1 + 1, 2, none⟩ = some (.slice q2 E.me.length t2) := by rw [cell_of b4]; rfl
          have z3 : w4.cell? ⟨W.heap.size + 1 + 1 + 1, 3, none⟩ = some (.slice q3 E.pl.length t3) := by rw [cell_of b4]; rfl
          clear h4
          refine bodyPost_ret (v := .agg #[.slice q0 E.va.length t0, .slice q1 E.fi.length t1, .slice q2 E.me.length t2, .slice q3 E.pl.length t3]) (by simp [results, Try.results44, go_sem, z0, z1, z2, z3]) rfl ?_
          have h9 := (O1.out.ext (grows (a := w1) (b := w7))).box m4 (alwB BR.out w7)
          have gw : Ext W w7 := grows
          rw [HS.out]
          exact env_ret (Ext.mod gw m4 (fun k hk => by subst hk; omega)) (h9.base (by simp only [World.size_alloc]; omega))
        | true =>
          have hel : En.elB E h f = true := by rw [En.elB_ref hh, hrb, hv]; rfl
          rw [hv] at HHA
          have hr2 := hrb
          unfold En.refB at hr2
          rw [if_neg hh] at hr2
          simp only [Bool.and_eq_true] at hr2
          obtain ⟨j, rfl, hj⟩ := En.inB_get hr2.1
          obtain ⟨k, rfl, _⟩ := En.elB_get hel
          obtain ⟨R, hR⟩ : ∃ R, R = Bv.red v m := ⟨_, rfl⟩
          have HS : Hid (En.set P E j k v = En.put E j k R) := Lib.hid (by rw [En.set_yes hel hwk, hm, hR])
          have HM : Hid (∀ w, Calls Try.prog 83 #[.int .u32 v, .int .i64 m] w (Rets w (.int .u32 R))) := Lib.hid (fun w => by have h := Rets.of_eq (modulo_any (W := w) v m v0 v1 hm1 hm2); rw [← hR] at h; exact h)
          have HRB : Hid (U32 R) := Lib.hid (by rw [hR]; exact Bv.red_bd v m)
          clear hwk hrb hm hR hh hv hr2
          go_enter Try.func44, Try.ntmps44
          go_wp2_with fail
          refine (HCL.out _ grows).mono ?_
          rintro e w1 ⟨ev, vs, rfl, x1, o1⟩
          have s1 := Step.mk x1
          obtain ⟨q0, q1, q2, q3, t0, t1, t2, t3, hg⟩ := o1.isE.form
          obtain ⟨rfl, jva, jfi, jme, jpl, l0, l1, l2, l3⟩ := hg
          dsimp only [Pg.EV.val]
          have bo := alloc_heap w1 (.cells #[.slice q0 E.va.length t0, .slice q1 E.fi.length t1, .slice q2 E.me.length t2, .slice q3 E.pl.length t3] 65)
          have ob0 := alw (cell_of (o := 0) bo)
          have ob1 := alw (cell_of (o := 1) bo)
          have ob2 := alw (cell_of (o := 2) bo)
          have ob3 := alw (cell_of (o := 3) bo)
          have HBO := Lib.hid bo
          clear bo
          obtain ⟨u, hl, _, _, _⟩ := element_any o1.isE j k
          obtain ⟨g, n, c, y, rfl, z1, z2, z3, a1, a2, a3, a4, a5⟩ := o1.elem hl hel
          obtain ⟨l, hlj⟩ : ∃ l, E.fi[j]? = some l := ⟨_, List.getElem?_eq_getElem hj⟩
          obtain ⟨u', hu', _, _⟩ := o1.fi.row hlj
          obtain ⟨G, C, f1, f2, _, _, f3, f4, f5, f6⟩ := own_at (k := j) o1.fi.2.1 hu'
          have e3 := hl.2 G 0 _ C j rfl f1 hj
          rw [Nat.zero_add, f2 w1] at e3
          obtain rfl := Option.some.inj e3
          simp only [Value.slice.injEq] at f1
          obtain ⟨rfl, -, rfl⟩ := f1
          unfold maxLen at z3 f5
          have H5 := Lib.hid a5
          clear hl hel a5 hu' hlj e3
          clear o1 jva jfi jme jpl x1
          go_wp2_with fail
          refine (HWD.out _ grows).mono ?_
          rintro e w2 ⟨rfl, xw2⟩
          have sw2 := Step.mk xw2
          go_wp2_with fail
          refine (HEL.out _ grows).mono ?_
          rintro e w3 ⟨rfl, xw3⟩
          have sw3 := Step.mk xw3
          go_wp2_with fail
          refine (HHA.out _ grows).mono ?_
          rintro e w7 ⟨rfl, xw7⟩
          have sw7 := Step.mk xw7
          go_wp2_with fail
          refine wp_region_later_tail 12 (by kernel_rfl) (by kernel_rfl) (Ext.refl _) ?_
          simp only [List.take_succ_cons, List.take_zero, List.drop_succ_cons, List.drop_zero]
          repeat (go_big_quiet_step (first | (go_at_call 83; exact Rets.later_at (HM.out _))))
          refine wpQuiet_nil ?_
          intro w5 x5
          have s5 := Step.mk x5
          refine wpList_store_cell rfl 39 (.tmp 59) (.tmp 58) rfl g k y (.int .u32 R) rfl rfl (by kernel_rfl) rfl (a1 w5) (a2 w5) ?_
          intro w6 e6
          have ho6 : w6.heap[w1.heap.size]? = some (.cells #[.slice q0 E.va.length t0, .slice (some ⟨G, 0, none⟩) E.fi.length t1, .slice q2 E.me.length t2, .slice q3 E.pl.length t3] 65) := by rw [e6]; exact heap_set_ne (alwB HBO.out _) (by show w1.heap.size ≠ g; omega)
          have hr6 : w6.heap[W.heap.size + 1 + 1 + 1]? = some (.cells #[.slice none 0 0, .slice none 0 0, .slice none 0 0, .slice none 0 0] 65) := by rw [e6]; exact heap_set_ne (alwB BR.out _) (by show W.heap.size + 1 + 1 + 1 ≠ g; simp only [World.size_alloc] at a3; omega)
          have c0 : w6.cell? ⟨w1.heap.size, 0, none⟩ = some (.slice q0 E.va.length t0) := by rw [cell_of ho6]; rfl
          have n0 : w6.cell? ⟨W.heap.size + 1 + 1 + 1, 0, none⟩ = some (.slice none 0 0) := by rw [cell_of hr6]; rfl
          have u0 : w6.frozen? ⟨W.heap.size + 1 + 1 + 1, 0, none⟩ = false := free_of hr6
          have c1 : w6.cell? ⟨w1.heap.size, 1, none⟩ = some (.slice (some ⟨G, 0, none⟩) E.fi.length t1) := by rw [cell_of ho6]; rfl
          have n1 : w6.cell? ⟨W.heap.size + 1 + 1 + 1, 1, none⟩ = some (.slice none 0 0) := by rw [cell_of hr6]; rfl
          have u1 : w6.frozen? ⟨W.heap.size + 1 + 1 + 1, 1, none⟩ = false := free_of hr6
          have c2 : w6.cell? ⟨w1.heap.size, 2, none⟩ = some (.slice q2 E.me.length t2) := by rw [cell_of ho6]; rfl
          have n2 : w6.cell? ⟨W.heap.size + 1 + 1 + 1, 2, none⟩ = some (.slice none 0 0) := by rw [cell_of hr6]; rfl
          have u2 : w6.frozen? ⟨W.heap.size + 1 + 1 + 1, 2, none⟩ = false := free_of hr6
          have c3 : w6.cell? ⟨w1.heap.size, 3, none⟩ = some (.slice q3 E.pl.length t3) := by rw [cell_of ho6]; rfl
          have n3 : w6.cell? ⟨W.heap.size + 1 + 1 + 1, 3, none⟩ = some (.slice none 0 0) := by rw [cell_of hr6]; rfl
          have u3 : w6.frozen? ⟨W.heap.size + 1 + 1 + 1, 3, none⟩ = false := free_of hr6
          have HR6 := Lib.hid hr6
          clear ho6 hr6
          have E6 := Lib.hid e6
          have X5 : Hid (Ext w1 w5) := Lib.hid grows
          have XW : Hid (Ext W w5) := Lib.hid grows
          clear e6
          go_wp2_with fail
          obtain ⟨w4, h4⟩ : ∃ w4, w4 = ((((w6.setCell ⟨W.heap.size + 1 + 1 + 1, 0, none⟩ (.slice q0 E.va.length t0)).setCell ⟨W.heap.size + 1 + 1 + 1, 1, none⟩ (.slice (some ⟨G, 0, none⟩) E.fi.length t1)).setCell ⟨W.heap.size + 1 + 1 + 1, 2, none⟩ (.slice q2 E.me.length t2)).setCell ⟨W.heap.size + 1 + 1 + 1, 3, none⟩ (.slice q3 E.pl.length t3)) := ⟨_, rfl⟩
          rw [← h4]
          obtain ⟨m4, b4⟩ := tower4 (.slice q0 E.va.length t0) (.slice (some ⟨G, 0, none⟩) E.fi.length t1) (.slice q2 E.me.length t2) (.slice q3 E.pl.length t3) HR6.out
          rw [← h4] at m4 b4
          have z0 : w4.cell? ⟨W.heap.size + 1 + 1 + 1, 0, none⟩ = some (.slice q0 E.va.length t0) := by rw [cell_of b4]; rfl
          have z1 : w4.cell? ⟨W.heap.size + 1 + 1 + 1, 1, none⟩ = some (.slice (some ⟨G, 0, none⟩) E.fi.length t1) := by rw [cell_of b4]; rfl
          have z2 : w4.cell? ⟨W.heap.size + 1 + 1 + 1, 2, none⟩ = some (.slice q2 E.me.length t2) := by rw [cell_of b4]; rfl
          have z3 : w4.cell? ⟨W.heap.size + 1 + 1 + 1, 3, none⟩ = some (.slice q3 E.pl.length t3) := by rw [cell_of b4]; rfl
          clear h4
          refine bodyPost_ret (v := .agg #[.slice q0 E.va.length t0, .slice (some ⟨G, 0, none⟩) E.fi.length t1, .slice q2 E.me.length t2, .slice q3 E.pl.length t3]) (by simp [results, Try.results44, go_sem, z0, z1, z2, z3]) rfl ?_
          have h9 := (H5.out w5 R X5.out HRB.out)
          have e7 := E6.out
          rw [← e7] at h9
          have gw : Ext W w6 := by rw [e7]; exact Ext.setCell XW.out (by simp only [World.size_alloc] at a3; show W.heap.size ≤ g; omega) _
          rw [HS.out]
          exact env_ret (Ext.mod gw m4 (fun k hk => by subst hk; omega)) ((h9.box m4 HR6.out).base (by simp only [World.size_alloc]; omega))
end Go.Proofs.Ytdgepbolfflidaa
namespace Go.Proofs.Ytdgepbolfflidaa
open Go.RowKit

theorem run_clear_own {P : Program} (w : World) (t e ty : TypeId) (z : Value) (bytes : Nat) (ht : P.underlying t = some (.slice e)) (hi : (P.info? e).map (fun i => (i.zero, i.size, i.bytes)) = some (some z, 1, bytes)) (hz : z.cells = #[z]) (h1 : z.oneCell' = true)
    {B : Nat} {v : Value} {n : Nat} {xs : List Value} (ho : w.ownsRow B e 1 v n xs) :
    ∃ w', (Builtin.clear_ #[t] ty #[v]).run P w = .ok (.tuple #[]) w' ∧ w'.ownsRow B e 1 v n (List.replicate n z) ∧ Mod (fun k => some k = v.ownBlock) w w' := by
  have hl := ho.1
  rcases ho.2 with ⟨rfl, rfl⟩ | ⟨g, cap, cur, rfl, hB, hg, q1, q2, q3, q4⟩
  · refine ⟨w, by simp [Builtin.clear_, run_underlying ht], World.ownsRow_nil _ _ _ _, Mod.refl _ _⟩
  · rcases Nat.eq_zero_or_pos n with rfl | hn
    · exact ⟨w, by simp [Builtin.clear_, run_underlying ht], ⟨by simp, .inr ⟨g, cap, cur, rfl, hB, hg, q1, q2, q3, by simp⟩⟩, Mod.refl _ _⟩
    · obtain ⟨i, hi', hz', _, _⟩ := info_parts hi
      have hzc : (Builtin.zeroCells z.cells n).toList = List.replicate n z := by
        rw [hz]
        simp [Builtin.zeroCells]
        apply List.ext_getElem
        · simp
        · intro i h1 h2
          simp [Nat.mod_one]
      have hst := run_storeCells_at (P := P) g 0 e (List.replicate n z) 0 cur w hg (by simp; omega) (by intro v hv'; rw [List.eq_of_mem_replicate hv']; exact h1)
      simp only [Nat.add_zero, Nat.zero_add, List.take_zero, List.nil_append, List.length_replicate] at hst
      obtain ⟨m, rfl⟩ : ∃ m, n = m + 1 := ⟨n - 1, by omega⟩
      refine ⟨_, by simp [Builtin.clear_, run_underlying ht, zeroValue, typeInfo, hi', hz', hzc, hst]; rfl, ⟨by simp, .inr ⟨g, cap, _, rfl, hB, setRow_heap w g cur _ e (0, 0) hg, q1, q2, ?_, ?_⟩⟩, ?_⟩
      · simp [q3]; omega
      · simp
      · refine Mod.mono mod_setRow (fun _ _ hk => by subst hk; rfl)
theorem wpList_clear_own {P : Program} {ops : Array Oper} {rest : List Oper} {o : Oper} {a : Act} {w : World} {Q : Exit → Act → World → Prop} (hgd : o.guard = none) (x : Operand) (t : TypeId)
    (hop : o.op = .call { callee := .builtin .clear, args := #[x], argTypes := #[t] }) (e : TypeId) (z : Value) (bytes : Nat) (ht : P.underlying t = some (.slice e)) (hi : (P.info? e).map (fun i => (i.zero, i.size, i.bytes)) = some (some z, 1, bytes)) (hz : z.cells = #[z]) (h1 : z.oneCell' = true)
    {B : Nat} {v : Value} {n : Nat} {xs : List Value} (hx : a.eval x = v) (ho : w.ownsRow B e 1 v n xs)
    (h : ∀ w', w'.ownsRow B e 1 v n (List.replicate n z) → Mod (fun k => some k = v.ownBlock) w w' → wpList P ops Q rest (a.put o.dst (.tuple #[])) w') : wpList P ops Q (o :: rest) a w := by
  refine wpList_plain hgd fun _ hK => ?_
  obtain ⟨w', hr, k2, k3⟩ := run_clear_own (P := P) w t e o.type z bytes ht hi hz h1 ho
  unfold Oper.wp execOp
  simp only [hop, resolve, invoke, builtin, Sem.run_bind, Sem.run_pure, Result.andThen_ok, List.map_toArray, List.map_cons, List.map_nil, hx, hr]
  exact hK _ _ (h w' k2 k3)
namespace En
/-- header h has validity b, its fields are 0 -/
def sw (E : Pg.Env) (h : Nat) (b : Bool) : Pg.Env := ⟨E.va.set h b, E.fi.set h (List.replicate (rowAt E.fi h).length 0), E.me, E.pl⟩
def swB (P : Pg.Prog) (E : Pg.Env) (h : Int) (valid keep : Bool) : Bool := inB P.hs.length h && (inB E.va.length h && !(keep && (vaAt E.va h == valid)))
def switch (P : Pg.Prog) (E : Pg.Env) (h : Int) (valid keep : Bool) : Pg.Env := if swB P E h valid keep then sw E h.toNat valid else E
end En
/-- a row cleared, or no row at all -/
theorem OwnE.cleared {B : Nat} {w w' : World} {e : Pg.EV} {vs : List Value} {E : Pg.Env} (h : OwnE B w e vs E) {i : Nat} {u : Value} {l : List Int} (hu : vs[i]? = some u) (hl : E.fi[i]? = some l) (ho : w'.ownsRow B 39 1 u l.length (List.replicate l.length (.int .u32 0))) (hm : Mod (fun k => some k = u.ownBlock) w w') :
    OwnE B w' e vs ⟨E.va, E.fi.set i (List.replicate l.length 0), E.me, E.pl⟩ := by
  have ho' : w'.ownsRow B 39 1 u (List.replicate l.length (0 : Int)).length ((List.replicate l.length (0 : Int)).map (.int .u32)) := by simpa using ho
  rcases (h.fi.2.2.1 i u l hu hl).1.2 with ⟨rfl, hz⟩ | ⟨g, cap, cur, rfl, hB, hg, q1, q2, q3, q4⟩
  · have hx : Ext w w' := ⟨hm.os, hm.tape, hm.output, hm.size, fun k hk => hm.block k hk (by simp [Value.ownBlock])⟩
    have h1 := h.ext hx
    have e1 : E.fi.set i (List.replicate l.length 0) = E.fi := by
      rw [hz]
      have : l = [] := List.eq_nil_of_length_eq_zero hz
      subst this
      exact Rg.set_same hl
    rw [e1]; exact h1
  · exact h.rowTo hu hl (fun k hk hlt => hm.block k hlt (by simp only [Value.ownBlock, Option.some.injEq]; exact hk)) ho' zero_u32
theorem mod_box {B g : Nat} {w w' : World} {e t : TypeId} {v : Value} {n : Nat} {xs : List Value} {c : Array Value} (m : Mod (fun k => some k = v.ownBlock) w w') (ho : w.ownsRow B e 1 v n xs) (hg : w.heap[g]? = some (.cells c t (0, 0))) (hne : e ≠ t) : w'.heap[g]? = some (.cells c t (0, 0)) := by
  rw [m.block g (lt_of_block hg) (fun e1 => by
    obtain ⟨_, g1, _⟩ := own_heap ho e1.symm
    exact ne_of_type g1 hg hne rfl)]
  exact hg
theorem Ext.own {a w w' : World} {B : Nat} {e : TypeId} {v : Value} {n : Nat} {xs : List Value} (h : Ext a w) (m : Mod (fun k => some k = v.ownBlock) w w') (ho : w.ownsRow B e 1 v n xs) (hB : a.heap.size ≤ B) : Ext a w' :=
  Ext.mod h m (fun _ hk => Nat.le_trans hB (own_ge ho hk.symm))
namespace En
theorem sw_no {P : Pg.Prog} {E : Pg.Env} {h : Int} {valid keep : Bool} (e : swB P E h valid keep = false) : switch P E h valid keep = E := by unfold switch; rw [e]; rfl
theorem sw_yes {P : Pg.Prog} {E : Pg.Env} {k : Nat} {valid keep : Bool} (e : swB P E k valid keep = true) : switch P E k valid keep = sw E k valid := by unfold switch; rw [e, if_pos rfl, Int.toNat_natCast]
end En
set_option maxRecDepth 8000 in
set_option maxHeartbeats 8000000 in
theorem switched_any {W : World} {p : Pg.PV} {P : Pg.Prog} {e : Pg.EV} {E : Pg.Env} (hp : Pg.IsP W p P) (he : Pg.IsE W e E) (hc : En.CapE E) (h : Int) (valid keep : Bool) :
    Calls Try.prog 84 #[p.val, e.val, .int .i64 h, .bool valid, .bool keep] W (EnvP W (En.switch P E h valid keep)) := by
  have HCL := Lib.hid (fun w (hx : Ext W w) => clone_any (he.ext hx) hc)
  obtain ⟨s, a1, a2, a3, a4, a5, a6, a7, a8, m1, m2, n3, m3, n4, m4, n5, m5, n6, m6, n7, m7, m8, hf⟩ := hp.form
  obtain ⟨rfl, hhs, hmd, _, hl1, hl2, _⟩ := hf
  obtain ⟨b0, b1, b2, b3, d0, d1, d2, d3, hg⟩ := he.form
  obtain ⟨rfl, hva, hfi, hme, hpl, g0, g1, g2, g3⟩ := hg
  dsimp only [Pg.PV.val, Pg.EV.val] at HCL ⊢
  have bx := alloc_heap W (.cells #[.string s, .slice a1 P.hs.length m1, .slice a2 P.md.length m2, .slice a3 n3 m3, .slice a4 n4 m4, .slice a5 n5 m5, .slice a6 n6 m6, .slice a7 n7 m7, .slice a8 P.dp.length m8] 61)
  have k0 := alw (cell_of (o := 0) bx)
  have k1 := alw (cell_of (o := 1) bx)
  have k2 := alw (cell_of (o := 2) bx)
  have k3 := alw (cell_of (o := 3) bx)
  have k4 := alw (cell_of (o := 4) bx)
  have k5 := alw (cell_of (o := 5) bx)
  have k6 := alw (cell_of (o := 6) bx)
  have k7 := alw (cell_of (o := 7) bx)
  have k8 := alw (cell_of (o := 8) bx)
  clear bx
  have bx := alloc_heap (W.alloc (.cells #[.string s, .slice a1 P.hs.length m1, .slice a2 P.md.length m2, .slice a3 n3 m3, .slice a4 n4 m4, .slice a5 n5 m5, .slice a6 n6 m6, .slice a7 n7 m7, .slice a8 P.dp.length m8] 61)) (.cells #[.slice b0 E.va.length d0, .slice b1 E.fi.length d1, .slice b2 E.me.length d2, .slice b3 E.pl.length d3] 65)
  rw [World.size_alloc] at bx
  have em0 := alw (cell_of (o := 0) bx)
  have em1 := alw (cell_of (o := 1) bx)
  have em2 := alw (cell_of (o := 2) bx)
  have em3 := alw (cell_of (o := 3) bx)
  clear bx
  have bx := alloc_heap ((W.alloc (.cells #[.string s, .slice a1 P.hs.length m1, .slice a2 P.md.length m2, .slice a3 n3 m3, .slice a4 n4 m4, .slice a5 n5 m5, .slice a6 n6 m6, .slice a7 n7 m7, .slice a8 P.dp.length m8] 61)).alloc (.cells #[.slice b0 E.va.length d0, .slice b1 E.fi.length d1, .slice b2 E.me.length d2, .slice b3 E.pl.length d3] 65)) (.cells #[.slice none 0 0, .slice none 0 0, .slice none 0 0, .slice none 0 0] 65)
  rw [World.size_alloc, World.size_alloc] at bx
  have r0 := alw (cell_of (o := 0) bx)
  have r1 := alw (cell_of (o := 1) bx)
  have r2 := alw (cell_of (o := 2) bx)
  have r3 := alw (cell_of (o := 3) bx)
  have er0 := alwF (o := 0) bx
  have er1 := alwF (o := 1) bx
  have er2 := alwF (o := 2) bx
  have er3 := alwF (o := 3) bx
  have BR := Lib.hid bx
  clear bx
  have HI1 := Lib.hid (fun w => inH_any w a1 P.hs.length m1 h)
  clear hp he hhs hmd hva hfi hme hpl hc
  cases hi1 : En.inB P.hs.length h with
  | false =>
    have HS := Lib.hid (En.sw_no (P := P) (E := E) (h := h) (valid := valid) (keep := keep) (by unfold En.swB; rw [hi1]; rfl))
    rw [hi1] at HI1
    clear hi1
    go_enter Try.func84, Try.ntmps84
    go_wp2_with fail
    refine (HCL.out _ grows).mono ?_
    rintro e w1 ⟨ev, vs, rfl, x1, o1⟩
    have s1 := Step.mk x1
    obtain ⟨q0, q1, q2, q3, t0, t1, t2, t3, hg⟩ := o1.isE.form
    obtain ⟨rfl, jva, jfi, jme, jpl, l0, l1, l2, l3⟩ := hg
    dsimp only [Pg.EV.val]
    have bo := alloc_heap w1 (.cells #[.slice q0 E.va.length t0, .slice q1 E.fi.length t1, .slice q2 E.me.length t2, .slice q3 E.pl.length t3] 65)
    have ob0 := alw (cell_of (o := 0) bo)
    have ob1 := alw (cell_of (o := 1) bo)
    have ob2 := alw (cell_of (o := 2) bo)
    have ob3 := alw (cell_of (o := 3) bo)
    have HBO := Lib.hid bo
    clear bo
    have O1 := Lib.hid o1
    clear o1 jva jfi jme jpl x1
    go_wp2_with fail
    refine (HI1.out _).mono ?_
    rintro e w2 ⟨rfl, xw2⟩
    have sw2 := Step.mk xw2
    go_wp2_with fail
    obtain ⟨w4, h4⟩ : ∃ w4, w4 = ((((w2.setCell ⟨W.heap.size + 1 + 1, 0, none⟩ (.slice q0 E.va.length t0)).setCell ⟨W.heap.size + 1 + 1, 1, none⟩ (.slice q1 E.fi.length t1)).setCell ⟨W.heap.size + 1 + 1, 2, none⟩ (.slice q2 E.me.length t2)).setCell ⟨W.heap.size + 1 + 1, 3, none⟩ (.slice q3 E.pl.length t3)) := ⟨_, rfl⟩
    rw [← h4]
    obtain ⟨m4, b4⟩ := tower4 (.slice q0 E.va.length t0) (.slice q1 E.fi.length t1) (.slice q2 E.me.length t2) (.slice q3 E.pl.length t3) (alwB BR.out w2)
    rw [← h4] at m4 b4
    have z0 : w4.cell? ⟨W.heap.size + 1 + 1, 0, none⟩ = some (.slice q0 E.va.length t0) := by rw [cell_of b4]; rfl
    have z1 : w4.cell? ⟨W.heap.size + 1 + 1, 1, none⟩ = some (.slice q1 E.fi.length t1) := by rw [cell_of b4]; rfl
    have z2 : w4.cell? ⟨W.heap.size + 1 + 1, 2, none⟩ = some (.slice q2 E.me.length t2) := by rw [cell_of b4]; rfl
    have z3 : w4.cell? ⟨W.heap.size + 1 + 1, 3, none⟩ = some (.slice q3 E.pl.length t3) := by rw [cell_of b4]; rfl
    clear h4
    refine bodyPost_ret (v := .agg #[.slice q0 E.va.length t0, .slice q1 E.fi.length t1, .slice q2 E.me.length t2, .slice q3 E.pl.length t3]) (by simp [results, Try.results84, go_sem, z0, z1, z2, z3]) rfl ?_
    have h9 := (O1.out.ext (grows (a := w1) (b := w2))).box m4 (alwB BR.out w2)
    have gw : Ext W w2 := grows
    rw [HS.out]
    exact env_ret (Ext.mod gw m4 (fun k hk => by subst hk; omega)) (h9.base (by first | omega | (simp only [World.size_alloc]; omega)))
  | true =>
    rw [hi1] at HI1
    cases hi2 : En.inB E.va.length h with
    | false =>
      have HS := Lib.hid (En.sw_no (P := P) (E := E) (h := h) (valid := valid) (keep := keep) (by unfold En.swB; rw [hi1, hi2]; rfl))
      have HI2 := Lib.hid (fun w q t => inB_any w q E.va.length t h)
      rw [hi2] at HI2
      clear hi1 hi2
      go_enter Try.func84, Try.ntmps84
      go_wp2_with fail
      refine (HCL.out _ grows).mono ?_
      rintro e w1 ⟨ev, vs, rfl, x1, o1⟩
      have s1 := Step.mk x1
      obtain ⟨q0, q1, q2, q3, t0, t1, t2, t3, hg⟩ := o1.isE.form
      obtain ⟨rfl, jva, jfi, jme, jpl, l0, l1, l2, l3⟩ := hg
      dsimp only [Pg.EV.val]
      have bo := alloc_heap w1 (.cells #[.slice q0 E.va.length t0, .slice q1 E.fi.length t1, .slice q2 E.me.length t2, .slice q3 E.pl.length t3] 65)
      have ob0 := alw (cell_of (o := 0) bo)
      have ob1 := alw (cell_of (o := 1) bo)
      have ob2 := alw (cell_of (o := 2) bo)
      have ob3 := alw (cell_of (o := 3) bo)
      have HBO := Lib.hid bo
      clear bo
      have O1 := Lib.hid o1
      clear o1 jva jfi jme jpl x1
      go_wp2_with fail
      refine (HI1.out _).mono ?_
      rintro e w2 ⟨rfl, xw2⟩
      have sw2 := Step.mk xw2
      go_wp2_with fail
      refine (HI2.out _ _ _).mono ?_
      rintro e w3 ⟨rfl, xw3⟩
      have sw3 := Step.mk xw3
      go_wp2_with fail
      obtain ⟨w4, h4⟩ : ∃ w4, w4 = ((((w3.setCell ⟨W.heap.size + 1 + 1, 0, none⟩ (.slice q0 E.va.length t0)).setCell ⟨W.heap.size + 1 + 1, 1, none⟩ (.slice q1 E.fi.length t1)).setCell ⟨W.heap.size + 1 + 1, 2, none⟩ (.slice q2 E.me.length t2)).setCell ⟨W.heap.size + 1 + 1, 3, none⟩ (.slice q3 E.pl.length t3)) := ⟨_, rfl⟩
      rw [← h4]
      obtain ⟨m4, b4⟩ := tower4 (.slice q0 E.va.length t0) (.slice q1 E.fi.length t1) (.slice q2 E.me.length t2) (.slice q3 E.pl.length t3) (alwB BR.out w3)
      rw [← h4] at m4 b4
      have z0 : w4.cell? ⟨W.heap.size + 1 + 1, 0, none⟩ = some (.slice q0 E.va.length t0) := by rw [cell_of b4]; rfl
      have z1 : w4.cell? ⟨W.heap.size + 1 + 1, 1, none⟩ = some (.slice q1 E.fi.length t1) := by rw [cell_of b4]; rfl
      have z2 : w4.cell? ⟨W.heap.size + 1 + 1, 2, none⟩ = some (.slice q2 E.me.length t2) := by rw [cell_of b4]; rfl
      have z3 : w4.cell? ⟨W.heap.size + 1 + 1, 3, none⟩ = some (.slice q3 E.pl.length t3) := by rw [cell_of b4]; rfl
      clear h4
      refine bodyPost_ret (v := .agg #[.slice q0 E.va.length t0, .slice q1 E.fi.length t1, .slice q2 E.me.length t2, .slice q3 E.pl.length t3]) (by simp [results, Try.results84, go_sem, z0, z1, z2, z3]) rfl ?_
      have h9 := (O1.out.ext (grows (a := w1) (b := w3))).box m4 (alwB BR.out w3)
      have gw : Ext W w3 := grows
      rw [HS.out]
      exact env_ret (Ext.mod gw m4 (fun k hk => by subst hk; omega)) (h9.base (by first | omega | (simp only [World.size_alloc]; omega)))
    | true =>
      have HI2 := Lib.hid (fun w q t => inB_any w q E.va.length t h)
      rw [hi2] at HI2
      have hi3 := hi2
      obtain ⟨k, rfl, hk⟩ := En.inB_get hi3
      clear hi3
      obtain ⟨x, hxk⟩ : ∃ x, E.va[k]? = some x := ⟨_, List.getElem?_eq_getElem hk⟩
      have HVX := Lib.hid (En.vaAt_in hxk)
      cases keep with
      | false =>
        have HS := Lib.hid (En.sw_yes (P := P) (E := E) (k := k) (valid := valid) (keep := false) (by unfold En.swB; rw [hi1, hi2]; rfl))
        clear hi1 hi2
        go_enter Try.func84, Try.ntmps84
        go_wp2_with fail
        refine (HCL.out _ grows).mono ?_
        rintro e w1 ⟨ev, vs, rfl, x1, o1⟩
        have s1 := Step.mk x1
        obtain ⟨q0, q1, q2, q3, t0, t1, t2, t3, hg⟩ := o1.isE.form
        obtain ⟨rfl, jva, jfi, jme, jpl, l0, l1, l2, l3⟩ := hg
        dsimp only [Pg.EV.val]
        have bo := alloc_heap w1 (.cells #[.slice q0 E.va.length t0, .slice q1 E.fi.length t1, .slice q2 E.me.length t2, .slice q3 E.pl.length t3] 65)
        have ob0 := alw (cell_of (o := 0) bo)
        have ob1 := alw (cell_of (o := 1) bo)
        have ob2 := alw (cell_of (o := 2) bo)
        have ob3 := alw (cell_of (o := 3) bo)
        have HBO := Lib.hid bo
        clear bo
        obtain ⟨g, c, f1, va1, va2, va3, va4, va5, va6, va7⟩ := own_at (k := k) o1.va (by rw [List.getElem?_map, hxk]; rfl)
        simp only [Value.slice.injEq] at f1
        obtain ⟨rfl, -, rfl⟩ := f1
        unfold maxLen at va6
        obtain ⟨B1, hB1⟩ : ∃ B, B = (((W.alloc (.cells #[.string s, .slice a1 P.hs.length m1, .slice a2 P.md.length m2, .slice a3 n3 m3, .slice a4 n4 m4, .slice a5 n5 m5, .slice a6 n6 m6, .slice a7 n7 m7, .slice a8 P.dp.length m8] 61)).alloc (.cells #[.slice b0 E.va.length d0, .slice b1 E.fi.length d1, .slice b2 E.me.length d2, .slice b3 E.pl.length d3] 65)).alloc (.cells #[.slice none 0 0, .slice none 0 0, .slice none 0 0, .slice none 0 0] 65)).heap.size := ⟨_, rfl⟩
        rw [← hB1] at o1 va3
        simp only [World.size_alloc] at hB1
        have O1 := Lib.hid o1
        clear o1 jva jfi jme jpl x1
        go_wp2_with fail
        refine (HI1.out _).mono ?_
        rintro e w2 ⟨rfl, xw2⟩
        have sw2 := Step.mk xw2
        go_wp2_with fail
        refine (HI2.out _ _ _).mono ?_
        rintro e w3 ⟨rfl, xw3⟩
        have sw3 := Step.mk xw3
        by_cases hkf : k < E.fi.length
        · obtain ⟨l, hlk⟩ : ∃ l, E.fi[k]? = some l := ⟨_, List.getElem?_eq_getElem hkf⟩
          obtain ⟨u, hu, hor, _⟩ := O1.out.fi.row hlk
          obtain ⟨G, C, f1, f2, _, _, f3, f4, f5, f6⟩ := own_at (k := k) O1.out.fi.2.1 hu
          simp only [Value.slice.injEq] at f1
          obtain ⟨rfl, -, rfl⟩ := f1
          obtain ⟨ua, uc, rfl⟩ := own_slice hor
          have hV0 : OwnE B1 (w3.setCell ⟨g, k, none⟩ (.bool valid)) ⟨.slice (some ⟨g, 0, none⟩) E.va.length t0, .slice (some ⟨G, 0, none⟩) E.fi.length t1, .slice q2 E.me.length t2, .slice q3 E.pl.length t3⟩ vs ⟨E.va.set k valid, E.fi, E.me, E.pl⟩ := (O1.out.ext (grows (a := w1) (b := w3))).setVa rfl k valid
          have HV0 := Lib.hid hV0
          have hob : (w3.setCell ⟨g, k, none⟩ (.bool valid)).heap[w1.heap.size]? = some (.cells #[.slice (some ⟨g, 0, none⟩) E.va.length t0, .slice (some ⟨G, 0, none⟩) E.fi.length t1, .slice q2 E.me.length t2, .slice q3 E.pl.length t3] 65) := heap_set_ne (p := ⟨g, k, none⟩) (alwB HBO.out w3) (by show w1.heap.size ≠ g; omega)
          have hrb : (w3.setCell ⟨g, k, none⟩ (.bool valid)).heap[W.heap.size + 1 + 1]? = some (.cells #[.slice none 0 0, .slice none 0 0, .slice none 0 0, .slice none 0 0] 65) := heap_set_ne (p := ⟨g, k, none⟩) (alwB BR.out w3) (by show W.heap.size + 1 + 1 ≠ g; omega)
          have HOB := Lib.hid hob
          have HRB := Lib.hid hrb
          have xV : Ext W (w3.setCell ⟨g, k, none⟩ (.bool valid)) := Ext.setCell (grows (a := W) (b := w3)) (by show W.heap.size ≤ g; omega) _
          have XV := Lib.hid xV
          have c0 := alw (show (w3.setCell ⟨g, k, none⟩ (.bool valid)).cell? ⟨w1.heap.size, 0, none⟩ = some (.slice (some ⟨g, 0, none⟩) E.va.length t0) by rw [cell_of hob]; rfl)
          have c1 := alw (show (w3.setCell ⟨g, k, none⟩ (.bool valid)).cell? ⟨w1.heap.size, 1, none⟩ = some (.slice (some ⟨G, 0, none⟩) E.fi.length t1) by rw [cell_of hob]; rfl)
          have c2 := alw (show (w3.setCell ⟨g, k, none⟩ (.bool valid)).cell? ⟨w1.heap.size, 2, none⟩ = some (.slice q2 E.me.length t2) by rw [cell_of hob]; rfl)
          have c3 := alw (show (w3.setCell ⟨g, k, none⟩ (.bool valid)).cell? ⟨w1.heap.size, 3, none⟩ = some (.slice q3 E.pl.length t3) by rw [cell_of hob]; rfl)
          have hcu : (w3.setCell ⟨g, k, none⟩ (.bool valid)).cell? ⟨G, 0 + k, none⟩ = some (.slice ua l.length uc) := by
            obtain ⟨u2, g1, g2, _⟩ := hV0.tabCell (G := G) rfl hkf
            obtain rfl := Option.some.inj (hu.symm.trans g1)
            rw [Nat.zero_add]; exact g2 _
          have HCU := Lib.hid hcu
          have hov := (hV0.fi.2.2.1 k _ l hu hlk).1
          have HOV := Lib.hid hov
          have HFS := Lib.hid hlk
          have HU := Lib.hid hu
          unfold maxLen at f5
          clear hV0 hob hrb xV hcu hov hlk hu hor
          go_wp2_with fail
          refine (atRow_in f6 HCU.out).mono ?_
          rintro e w8 ⟨rfl, x4⟩
          have s4 := Step.mk x4
          have w4x := Lib.hid x4
          have ho4 := own_ext HOV.out x4
          have HO4 := Lib.hid ho4
          clear ho4
          go_wp2_with (refine wpList_clear_own rfl (.tmp 47) 44 rfl 39 (.int .u32 0) 4 Try.underlying44 info_u32 rfl rfl (v := .slice ua l.length uc) rfl HO4.out ?_; intro w5 ho5 hm5; have ho6 : w5.heap[w1.heap.size]? = some (.cells #[.slice (some ⟨g, 0, none⟩) E.va.length t0, .slice (some ⟨G, 0, none⟩) E.fi.length t1, .slice q2 E.me.length t2, .slice q3 E.pl.length t3] 65) := mod_box hm5 HO4.out (w4x.out.heap HOB.out) (by decide); have hr6 : w5.heap[W.heap.size + 1 + 1]? = some (.cells #[.slice none 0 0, .slice none 0 0, .slice none 0 0, .slice none 0 0] 65) := mod_box hm5 HO4.out (w4x.out.heap HRB.out) (by decide); have z0 : w5.cell? ⟨w1.heap.size, 0, none⟩ = some (.slice (some ⟨g, 0, none⟩) E.va.length t0) := (by rw [cell_of ho6]; rfl); have n0 : w5.cell? ⟨W.heap.size + 1 + 1, 0, none⟩ = some (.slice none 0 0) := (by rw [cell_of hr6]; rfl); have u0 : w5.frozen? ⟨W.heap.size + 1 + 1, 0, none⟩ = false := free_of hr6; have z1 : w5.cell? ⟨w1.heap.size, 1, none⟩ = some (.slice (some ⟨G, 0, none⟩) E.fi.length t1) := (by rw [cell_of ho6]; rfl); have n1 : w5.cell? ⟨W.heap.size + 1 + 1, 1, none⟩ = some (.slice none 0 0) := (by rw [cell_of hr6]; rfl); have u1 : w5.frozen? ⟨W.heap.size + 1 + 1, 1, none⟩ = false := free_of hr6; have z2 : w5.cell? ⟨w1.heap.size, 2, none⟩ = some (.slice q2 E.me.length t2) := (by rw [cell_of ho6]; rfl); have n2 : w5.cell? ⟨W.heap.size + 1 + 1, 2, none⟩ = some (.slice none 0 0) := (by rw [cell_of hr6]; rfl); have u2 : w5.frozen? ⟨W.heap.size + 1 + 1, 2, none⟩ = false := free_of hr6; have z3 : w5.cell? ⟨w1.heap.size, 3, none⟩ = some (.slice q3 E.pl.length t3) := (by rw [cell_of ho6]; rfl); have n3 : w5.cell? ⟨W.heap.size + 1 + 1, 3, none⟩ = some (.slice none 0 0) := (by rw [cell_of hr6]; rfl); have u3 : w5.frozen? ⟨W.heap.size + 1 + 1, 3, none⟩ = false := free_of hr6; have HR6 := Lib.hid hr6; have HO5 := Lib.hid ho5; have HM5 := Lib.hid hm5; clear ho6 hr6 ho5 hm5)
          obtain ⟨w4, h4⟩ : ∃ w4, w4 = ((((w5.setCell ⟨W.heap.size + 1 + 1, 0, none⟩ (.slice (some ⟨g, 0, none⟩) E.va.length t0)).setCell ⟨W.heap.size + 1 + 1, 1, none⟩ (.slice (some ⟨G, 0, none⟩) E.fi.length t1)).setCell ⟨W.heap.size + 1 + 1, 2, none⟩ (.slice q2 E.me.length t2)).setCell ⟨W.heap.size + 1 + 1, 3, none⟩ (.slice q3 E.pl.length t3)) := ⟨_, rfl⟩
          rw [← h4]
          obtain ⟨m4, b4⟩ := tower4 (.slice (some ⟨g, 0, none⟩) E.va.length t0) (.slice (some ⟨G, 0, none⟩) E.fi.length t1) (.slice q2 E.me.length t2) (.slice q3 E.pl.length t3) HR6.out
          rw [← h4] at m4 b4
          have p0 : w4.cell? ⟨W.heap.size + 1 + 1, 0, none⟩ = some (.slice (some ⟨g, 0, none⟩) E.va.length t0) := by rw [cell_of b4]; rfl
          have p1 : w4.cell? ⟨W.heap.size + 1 + 1, 1, none⟩ = some (.slice (some ⟨G, 0, none⟩) E.fi.length t1) := by rw [cell_of b4]; rfl
          have p2 : w4.cell? ⟨W.heap.size + 1 + 1, 2, none⟩ = some (.slice q2 E.me.length t2) := by rw [cell_of b4]; rfl
          have p3 : w4.cell? ⟨W.heap.size + 1 + 1, 3, none⟩ = some (.slice q3 E.pl.length t3) := by rw [cell_of b4]; rfl
          clear h4
          refine bodyPost_ret (v := .agg #[.slice (some ⟨g, 0, none⟩) E.va.length t0, .slice (some ⟨G, 0, none⟩) E.fi.length t1, .slice q2 E.me.length t2, .slice q3 E.pl.length t3]) (by simp [results, Try.results84, go_sem, p0, p1, p2, p3]) rfl ?_
          have h8 := (HV0.out.ext w4x.out).cleared HU.out HFS.out (by simpa using HO5.out) HM5.out
          have h9 := h8.box m4 HR6.out
          have gw : Ext W w5 := (XV.out.trans w4x.out).own HM5.out HO4.out (by omega)
          rw [HS.out, show En.sw E k valid = ⟨E.va.set k valid, E.fi.set k (List.replicate l.length 0), E.me, E.pl⟩ by unfold En.sw; rw [En.rowAt_in HFS.out]]
          exact env_ret (Ext.mod gw m4 (fun k hk => by subst hk; omega)) (h9.base (by omega))
        · have hV0 : OwnE B1 (w3.setCell ⟨g, k, none⟩ (.bool valid)) ⟨.slice (some ⟨g, 0, none⟩) E.va.length t0, .slice q1 E.fi.length t1, .slice q2 E.me.length t2, .slice q3 E.pl.length t3⟩ vs ⟨E.va.set k valid, E.fi, E.me, E.pl⟩ := (O1.out.ext (grows (a := w1) (b := w3))).setVa rfl k valid
          have HV0 := Lib.hid hV0
          have hob : (w3.setCell ⟨g, k, none⟩ (.bool valid)).heap[w1.heap.size]? = some (.cells #[.slice (some ⟨g, 0, none⟩) E.va.length t0, .slice q1 E.fi.length t1, .slice q2 E.me.length t2, .slice q3 E.pl.length t3] 65) := heap_set_ne (p := ⟨g, k, none⟩) (alwB HBO.out w3) (by show w1.heap.size ≠ g; omega)
          have hrb : (w3.setCell ⟨g, k, none⟩ (.bool valid)).heap[W.heap.size + 1 + 1]? = some (.cells #[.slice none 0 0, .slice none 0 0, .slice none 0 0, .slice none 0 0] 65) := heap_set_ne (p := ⟨g, k, none⟩) (alwB BR.out w3) (by show W.heap.size + 1 + 1 ≠ g; omega)
          have HOB := Lib.hid hob
          have HRB := Lib.hid hrb
          have xV : Ext W (w3.setCell ⟨g, k, none⟩ (.bool valid)) := Ext.setCell (grows (a := W) (b := w3)) (by show W.heap.size ≤ g; omega) _
          have XV := Lib.hid xV
          have c0 := alw (show (w3.setCell ⟨g, k, none⟩ (.bool valid)).cell? ⟨w1.heap.size, 0, none⟩ = some (.slice (some ⟨g, 0, none⟩) E.va.length t0) by rw [cell_of hob]; rfl)
          have c1 := alw (show (w3.setCell ⟨g, k, none⟩ (.bool valid)).cell? ⟨w1.heap.size, 1, none⟩ = some (.slice q1 E.fi.length t1) by rw [cell_of hob]; rfl)
          have c2 := alw (show (w3.setCell ⟨g, k, none⟩ (.bool valid)).cell? ⟨w1.heap.size, 2, none⟩ = some (.slice q2 E.me.length t2) by rw [cell_of hob]; rfl)
          have c3 := alw (show (w3.setCell ⟨g, k, none⟩ (.bool valid)).cell? ⟨w1.heap.size, 3, none⟩ = some (.slice q3 E.pl.length t3) by rw [cell_of hob]; rfl)
          clear hV0 hob hrb xV
          go_wp2_with fail
          refine (atRow_out _ _ _ _ _ (.inr (by omega))).mono ?_
          rintro e w8 ⟨rfl, x4⟩
          have s4 := Step.mk x4
          have w4x := Lib.hid x4
          have HO4 : Hid (w8.ownsRow B1 39 1 (.slice none 0 0) 0 []) := Lib.hid (World.ownsRow_nil _ _ _ _)
          go_wp2_with (refine wpList_clear_own rfl (.tmp 47) 44 rfl 39 (.int .u32 0) 4 Try.underlying44 info_u32 rfl rfl (v := .slice none 0 0) rfl HO4.out ?_; intro w5 ho5 hm5; have ho6 : w5.heap[w1.heap.size]? = some (.cells #[.slice (some ⟨g, 0, none⟩) E.va.length t0, .slice q1 E.fi.length t1, .slice q2 E.me.length t2, .slice q3 E.pl.length t3] 65) := mod_box hm5 HO4.out (w4x.out.heap HOB.out) (by decide); have hr6 : w5.heap[W.heap.size + 1 + 1]? = some (.cells #[.slice none 0 0, .slice none 0 0, .slice none 0 0, .slice none 0 0] 65) := mod_box hm5 HO4.out (w4x.out.heap HRB.out) (by decide); have z0 : w5.cell? ⟨w1.heap.size, 0, none⟩ = some (.slice (some ⟨g, 0, none⟩) E.va.length t0) := (by rw [cell_of ho6]; rfl); have n0 : w5.cell? ⟨W.heap.size + 1 + 1, 0, none⟩ = some (.slice none 0 0) := (by rw [cell_of hr6]; rfl); have u0 : w5.frozen? ⟨W.heap.size + 1 + 1, 0, none⟩ = false := free_of hr6; have z1 : w5.cell? ⟨w1.heap.size, 1, none⟩ = some (.slice q1 E.fi.length t1) := (by rw [cell_of ho6]; rfl); have n1 : w5.cell? ⟨W.heap.size + 1 + 1, 1, none⟩ = some (.slice none 0 0) := (by rw [cell_of hr6]; rfl); have u1 : w5.frozen? ⟨W.heap.size + 1 + 1, 1, none⟩ = false := free_of hr6; have z2 : w5.cell? ⟨w1.heap.size, 2, none⟩ = some (.slice q2 E.me.length t2) := (by rw [cell_of ho6]; rfl); have n2 : w5.cell? ⟨W.heap.size + 1 + 1, 2, none⟩ = some (.slice none 0 0) := (by rw [cell_of hr6]; rfl); have u2 : w5.frozen? ⟨W.heap.size + 1 + 1, 2, none⟩ = false := free_of hr6; have z3 : w5.cell? ⟨w1.heap.size, 3, none⟩ = some (.slice q3 E.pl.length t3) := (by rw [cell_of ho6]; rfl); have n3 : w5.cell? ⟨W.heap.size + 1 + 1, 3, none⟩ = some (.slice none 0 0) := (by rw [cell_of hr6]; rfl); have u3 : w5.frozen? ⟨W.heap.size + 1 + 1, 3, none⟩ = false := free_of hr6; have HR6 := Lib.hid hr6; have HO5 := Lib.hid ho5; have HM5 := Lib.hid hm5; clear ho6 hr6 ho5 hm5)
          obtain ⟨w4, h4⟩ : ∃ w4, w4 = ((((w5.setCell ⟨W.heap.size + 1 + 1, 0, none⟩ (.slice (some ⟨g, 0, none⟩) E.va.length t0)).setCell ⟨W.heap.size + 1 + 1, 1, none⟩ (.slice q1 E.fi.length t1)).setCell ⟨W.heap.size + 1 + 1, 2, none⟩ (.slice q2 E.me.length t2)).setCell ⟨W.heap.size + 1 + 1, 3, none⟩ (.slice q3 E.pl.length t3)) := ⟨_, rfl⟩
          rw [← h4]
          obtain ⟨m4, b4⟩ := tower4 (.slice (some ⟨g, 0, none⟩) E.va.length t0) (.slice q1 E.fi.length t1) (.slice q2 E.me.length t2) (.slice q3 E.pl.length t3) HR6.out
          rw [← h4] at m4 b4
          have p0 : w4.cell? ⟨W.heap.size + 1 + 1, 0, none⟩ = some (.slice (some ⟨g, 0, none⟩) E.va.length t0) := by rw [cell_of b4]; rfl
          have p1 : w4.cell? ⟨W.heap.size + 1 + 1, 1, none⟩ = some (.slice q1 E.fi.length t1) := by rw [cell_of b4]; rfl
          have p2 : w4.cell? ⟨W.heap.size + 1 + 1, 2, none⟩ = some (.slice q2 E.me.length t2) := by rw [cell_of b4]; rfl
          have p3 : w4.cell? ⟨W.heap.size + 1 + 1, 3, none⟩ = some (.slice q3 E.pl.length t3) := by rw [cell_of b4]; rfl
          clear h4
          refine bodyPost_ret (v := .agg #[.slice (some ⟨g, 0, none⟩) E.va.length t0, .slice q1 E.fi.length t1, .slice q2 E.me.length t2, .slice q3 E.pl.length t3]) (by simp [results, Try.results84, go_sem, p0, p1, p2, p3]) rfl ?_
          have hx5 : Ext w8 w5 := ⟨HM5.out.os, HM5.out.tape, HM5.out.output, HM5.out.size, fun k hk => HM5.out.block k hk (by simp [Value.ownBlock])⟩
          have h9 := ((HV0.out.ext w4x.out).ext hx5).box m4 HR6.out
          have gw : Ext W w5 := (XV.out.trans w4x.out).trans hx5
          rw [HS.out, show En.sw E k valid = ⟨E.va.set k valid, E.fi, E.me, E.pl⟩ by unfold En.sw; rw [List.set_eq_of_length_le (l := E.fi) (by omega)]]
          exact env_ret (Ext.mod gw m4 (fun k hk => by subst hk; omega)) (h9.base (by omega))
      | true =>
        cases x <;> cases valid
        · have HS := Lib.hid (En.sw_no (P := P) (E := E) (h := k) (valid := false) (keep := true) (by unfold En.swB; rw [hi1, hi2, HVX.out]; rfl))
          clear hi1 hi2 HVX
          go_enter Try.func84, Try.ntmps84
          go_wp2_with fail
          refine (HCL.out _ grows).mono ?_
          rintro e w1 ⟨ev, vs, rfl, x1, o1⟩
          have s1 := Step.mk x1
          obtain ⟨q0, q1, q2, q3, t0, t1, t2, t3, hg⟩ := o1.isE.form
          obtain ⟨rfl, jva, jfi, jme, jpl, l0, l1, l2, l3⟩ := hg
          dsimp only [Pg.EV.val]
          have bo := alloc_heap w1 (.cells #[.slice q0 E.va.length t0, .slice q1 E.fi.length t1, .slice q2 E.me.length t2, .slice q3 E.pl.length t3] 65)
          have ob0 := alw (cell_of (o := 0) bo)
          have ob1 := alw (cell_of (o := 1) bo)
          have ob2 := alw (cell_of (o := 2) bo)
          have ob3 := alw (cell_of (o := 3) bo)
          have HBO := Lib.hid bo
          clear bo
          obtain ⟨g, c, f1, va1, va2, va3, va4, va5, va6, va7⟩ := own_at (k := k) o1.va (by rw [List.getElem?_map, hxk]; rfl)
          simp only [Value.slice.injEq] at f1
          obtain ⟨rfl, -, rfl⟩ := f1
          unfold maxLen at va6
          obtain ⟨B1, hB1⟩ : ∃ B, B = (((W.alloc (.cells #[.string s, .slice a1 P.hs.length m1, .slice a2 P.md.length m2, .slice a3 n3 m3, .slice a4 n4 m4, .slice a5 n5 m5, .slice a6 n6 m6, .slice a7 n7 m7, .slice a8 P.dp.length m8] 61)).alloc (.cells #[.slice b0 E.va.length d0, .slice b1 E.fi.length d1, .slice b2 E.me.length d2, .slice b3 E.pl.length d3] 65)).alloc (.cells #[.slice none 0 0, .slice none 0 0, .slice none 0 0, .slice none 0 0] 65)).heap.size := ⟨_, rfl⟩
          rw [← hB1] at o1 va3
          simp only [World.size_alloc] at hB1
          have O1 := Lib.hid o1
          clear o1 jva jfi jme jpl x1
          go_wp2_with fail
          refine (HI1.out _).mono ?_
          rintro e w2 ⟨rfl, xw2⟩
          have sw2 := Step.mk xw2
          go_wp2_with fail
          refine (HI2.out _ _ _).mono ?_
          rintro e w3 ⟨rfl, xw3⟩
          have sw3 := Step.mk xw3
          go_wp2_with fail
          obtain ⟨w4, h4⟩ : ∃ w4, w4 = ((((w3.setCell ⟨W.heap.size + 1 + 1, 0, none⟩ (.slice (some ⟨g, 0, none⟩) E.va.length t0)).setCell ⟨W.heap.size + 1 + 1, 1, none⟩ (.slice q1 E.fi.length t1)).setCell ⟨W.heap.size + 1 + 1, 2, none⟩ (.slice q2 E.me.length t2)).setCell ⟨W.heap.size + 1 + 1, 3, none⟩ (.slice q3 E.pl.length t3)) := ⟨_, rfl⟩
          rw [← h4]
          obtain ⟨m4, b4⟩ := tower4 (.slice (some ⟨g, 0, none⟩) E.va.length t0) (.slice q1 E.fi.length t1) (.slice q2 E.me.length t2) (.slice q3 E.pl.length t3) (alwB BR.out w3)
          rw [← h4] at m4 b4
          have z0 : w4.cell? ⟨W.heap.size + 1 + 1, 0, none⟩ = some (.slice (some ⟨g, 0, none⟩) E.va.length t0) := by rw [cell_of b4]; rfl
          have z1 : w4.cell? ⟨W.heap.size + 1 + 1, 1, none⟩ = some (.slice q1 E.fi.length t1) := by rw [cell_of b4]; rfl
          have z2 : w4.cell? ⟨W.heap.size + 1 + 1, 2, none⟩ = some (.slice q2 E.me.length t2) := by rw [cell_of b4]; rfl
          have z3 : w4.cell? ⟨W.heap.size + 1 + 1, 3, none⟩ = some (.slice q3 E.pl.length t3) := by rw [cell_of b4]; rfl
          clear h4
          refine bodyPost_ret (v := .agg #[.slice (some ⟨g, 0, none⟩) E.va.length t0, .slice q1 E.fi.length t1, .slice q2 E.me.length t2, .slice q3 E.pl.length t3]) (by simp [results, Try.results84, go_sem, z0, z1, z2, z3]) rfl ?_
          have h9 := (O1.out.ext (grows (a := w1) (b := w3))).box m4 (alwB BR.out w3)
          have gw : Ext W w3 := grows
          rw [HS.out]
          exact env_ret (Ext.mod gw m4 (fun k hk => by subst hk; omega)) (h9.base (by first | omega | (simp only [World.size_alloc]; omega)))
        · have HS := Lib.hid (En.sw_yes (P := P) (E := E) (k := k) (valid := true) (keep := true) (by unfold En.swB; rw [hi1, hi2, HVX.out]; rfl))
          clear hi1 hi2 HVX
          go_enter Try.func84, Try.ntmps84
          go_wp2_with fail
          refine (HCL.out _ grows).mono ?_
          rintro e w1 ⟨ev, vs, rfl, x1, o1⟩
          have s1 := Step.mk x1
          obtain ⟨q0, q1, q2, q3, t0, t1, t2, t3, hg⟩ := o1.isE.form
          obtain ⟨rfl, jva, jfi, jme, jpl, l0, l1, l2, l3⟩ := hg
          dsimp only [Pg.EV.val]
          have bo := alloc_heap w1 (.cells #[.slice q0 E.va.length t0, .slice q1 E.fi.length t1, .slice q2 E.me.length t2, .slice q3 E.pl.length t3] 65)
          have ob0 := alw (cell_of (o := 0) bo)
          have ob1 := alw (cell_of (o := 1) bo)
          have ob2 := alw (cell_of (o := 2) bo)
          have ob3 := alw (cell_of (o := 3) bo)
          have HBO := Lib.hid bo
          clear bo
          obtain ⟨g, c, f1, va1, va2, va3, va4, va5, va6, va7⟩ := own_at (k := k) o1.va (by rw [List.getElem?_map, hxk]; rfl)
          simp only [Value.slice.injEq] at f1
          obtain ⟨rfl, -, rfl⟩ := f1
          unfold maxLen at va6
          obtain ⟨B1, hB1⟩ : ∃ B, B = (((W.alloc (.cells #[.string s, .slice a1 P.hs.length m1, .slice a2 P.md.length m2, .slice a3 n3 m3, .slice a4 n4 m4, .slice a5 n5 m5, .slice a6 n6 m6, .slice a7 n7 m7, .slice a8 P.dp.length m8] 61)).alloc (.cells #[.slice b0 E.va.length d0, .slice b1 E.fi.length d1, .slice b2 E.me.length d2, .slice b3 E.pl.length d3] 65)).alloc (.cells #[.slice none 0 0, .slice none 0 0, .slice none 0 0, .slice none 0 0] 65)).heap.size := ⟨_, rfl⟩
          rw [← hB1] at o1 va3
          simp only [World.size_alloc] at hB1
          have O1 := Lib.hid o1
          clear o1 jva jfi jme jpl x1
          go_wp2_with fail
          refine (HI1.out _).mono ?_
          rintro e w2 ⟨rfl, xw2⟩
          have sw2 := Step.mk xw2
          go_wp2_with fail
          refine (HI2.out _ _ _).mono ?_
          rintro e w3 ⟨rfl, xw3⟩
          have sw3 := Step.mk xw3
          by_cases hkf : k < E.fi.length
          · obtain ⟨l, hlk⟩ : ∃ l, E.fi[k]? = some l := ⟨_, List.getElem?_eq_getElem hkf⟩
            obtain ⟨u, hu, hor, _⟩ := O1.out.fi.row hlk
            obtain ⟨G, C, f1, f2, _, _, f3, f4, f5, f6⟩ := own_at (k := k) O1.out.fi.2.1 hu
            simp only [Value.slice.injEq] at f1
            obtain ⟨rfl, -, rfl⟩ := f1
            obtain ⟨ua, uc, rfl⟩ := own_slice hor
            have hV0 : OwnE B1 (w3.setCell ⟨g, k, none⟩ (.bool true)) ⟨.slice (some ⟨g, 0, none⟩) E.va.length t0, .slice (some ⟨G, 0, none⟩) E.fi.length t1, .slice q2 E.me.length t2, .slice q3 E.pl.length t3⟩ vs ⟨E.va.set k true, E.fi, E.me, E.pl⟩ := (O1.out.ext (grows (a := w1) (b := w3))).setVa rfl k true
            have HV0 := Lib.hid hV0
            have hob : (w3.setCell ⟨g, k, none⟩ (.bool true)).heap[w1.heap.size]? = some (.cells #[.slice (some ⟨g, 0, none⟩) E.va.length t0, .slice (some ⟨G, 0, none⟩) E.fi.length t1, .slice q2 E.me.length t2, .slice q3 E.pl.length t3] 65) := heap_set_ne (p := ⟨g, k, none⟩) (alwB HBO.out w3) (by show w1.heap.size ≠ g; omega)
            have hrb : (w3.setCell ⟨g, k, none⟩ (.bool true)).heap[W.heap.size + 1 + 1]? = some (.cells #[.slice none 0 0, .slice none 0 0, .slice none 0 0, .slice none 0 0] 65) := heap_set_ne (p := ⟨g, k, none⟩) (alwB BR.out w3) (by show W.heap.size + 1 + 1 ≠ g; omega)
            have HOB := Lib.hid hob
            have HRB := Lib.hid hrb
            have xV : Ext W (w3.setCell ⟨g, k, none⟩ (.bool true)) := Ext.setCell (grows (a := W) (b := w3)) (by show W.heap.size ≤ g; omega) _
            have XV := Lib.hid xV
            have c0 := alw (show (w3.setCell ⟨g, k, none⟩ (.bool true)).cell? ⟨w1.heap.size, 0, none⟩ = some (.slice (some ⟨g, 0, none⟩) E.va.length t0) by rw [cell_of hob]; rfl)
            have c1 := alw (show (w3.setCell ⟨g, k, none⟩ (.bool true)).cell? ⟨w1.heap.size, 1, none⟩ = some (.slice (some ⟨G, 0, none⟩) E.fi.length t1) by rw [cell_of hob]; rfl)
            have c2 := alw (show (w3.setCell ⟨g, k, none⟩ (.bool true)).cell? ⟨w1.heap.size, 2, none⟩ = some (.slice q2 E.me.length t2) by rw [cell_of hob]; rfl)
            have c3 := alw (show (w3.setCell ⟨g, k, none⟩ (.bool true)).cell? ⟨w1.heap.size, 3, none⟩ = some (.slice q3 E.pl.length t3) by rw [cell_of hob]; rfl)
            have hcu : (w3.setCell ⟨g, k, none⟩ (.bool true)).cell? ⟨G, 0 + k, none⟩ = some (.slice ua l.length uc) := by
              obtain ⟨u2, g1, g2, _⟩ := hV0.tabCell (G := G) rfl hkf
              obtain rfl := Option.some.inj (hu.symm.trans g1)
              rw [Nat.zero_add]; exact g2 _
            have HCU := Lib.hid hcu
            have hov := (hV0.fi.2.2.1 k _ l hu hlk).1
            have HOV := Lib.hid hov
            have HFS := Lib.hid hlk
            have HU := Lib.hid hu
            unfold maxLen at f5
            clear hV0 hob hrb xV hcu hov hlk hu hor
            go_wp2_with fail
            refine (atRow_in f6 HCU.out).mono ?_
            rintro e w8 ⟨rfl, x4⟩
            have s4 := Step.mk x4
            have w4x := Lib.hid x4
            have ho4 := own_ext HOV.out x4
            have HO4 := Lib.hid ho4
            clear ho4
            go_wp2_with (refine wpList_clear_own rfl (.tmp 47) 44 rfl 39 (.int .u32 0) 4 Try.underlying44 info_u32 rfl rfl (v := .slice ua l.length uc) rfl HO4.out ?_; intro w5 ho5 hm5; have ho6 : w5.heap[w1.heap.size]? = some (.cells #[.slice (some ⟨g, 0, none⟩) E.va.length t0, .slice (some ⟨G, 0, none⟩) E.fi.length t1, .slice q2 E.me.length t2, .slice q3 E.pl.length t3] 65) := mod_box hm5 HO4.out (w4x.out.heap HOB.out) (by decide); have hr6 : w5.heap[W.heap.size + 1 + 1]? = some (.cells #[.slice none 0 0, .slice none 0 0, .slice none 0 0, .slice none 0 0] 65) := mod_box hm5 HO4.out (w4x.out.heap HRB.out) (by decide); have z0 : w5.cell? ⟨w1.heap.size, 0, none⟩ = some (.slice (some ⟨g, 0, none⟩) E.va.length t0) := (by rw [cell_of ho6]; rfl); have n0 : w5.cell? ⟨W.heap.size + 1 + 1, 0, none⟩ = some (.slice none 0 0) := (by rw [cell_of hr6]; rfl); have u0 : w5.frozen? ⟨W.heap.size + 1 + 1, 0, none⟩ = false := free_of hr6; have z1 : w5.cell? ⟨w1.heap.size, 1, none⟩ = some (.slice (some ⟨G, 0, none⟩) E.fi.length t1) := (by rw [cell_of ho6]; rfl); have n1 : w5.cell? ⟨W.heap.size + 1 + 1, 1, none⟩ = some (.slice none 0 0) := (by rw [cell_of hr6]; rfl); have u1 : w5.frozen? ⟨W.heap.size + 1 + 1, 1, none⟩ = false := free_of hr6; have z2 : w5.cell? ⟨w1.heap.size, 2, none⟩ = some (.slice q2 E.me.length t2) := (by rw [cell_of ho6]; rfl); have n2 : w5.cell? ⟨W.heap.size + 1 + 1, 2, none⟩ = some (.slice none 0 0) := (by rw [cell_of hr6]; rfl); have u2 : w5.frozen? ⟨W.heap.size + 1 + 1, 2, none⟩ = false := free_of hr6; have z3 : w5.cell? ⟨w1.heap.size, 3, none⟩ = some (.slice q3 E.pl.length t3) := (by rw [cell_of ho6]; rfl); have n3 : w5.cell? ⟨W.heap.size + 1 + 1, 3, none⟩ = some (.slice none 0 0) := (by rw [cell_of hr6]; rfl); have u3 : w5.frozen? ⟨W.heap.size + 1 + 1, 3, none⟩ = false := free_of hr6; have HR6 := Lib.hid hr6; have HO5 := Lib.hid ho5; have HM5 := Lib.hid hm5; clear ho6 hr6 ho5 hm5)
            obtain ⟨w4, h4⟩ : ∃ w4, w4 = ((((w5.setCell ⟨W.heap.size + 1 + 1, 0, none⟩ (.slice (some ⟨g, 0, none⟩) E.va.length t0)).setCell ⟨W.heap.size + 1 + 1, 1, none⟩ (.slice (some ⟨G, 0, none⟩) E.fi.length t1)).setCell ⟨W.heap.size + 1 + 1, 2, none⟩ (.slice q2 E.me.length t2)).setCell ⟨W.heap.size + 1 + 1, 3, none⟩ (.slice q3 E.pl.length t3)) := ⟨_, rfl⟩
            rw [← h4]
            obtain ⟨m4, b4⟩ := tower4 (.slice (some ⟨g, 0, none⟩) E.va.length t0) (.slice (some ⟨G, 0, none⟩) E.fi.length t1) (.slice q2 E.me.length t2) (.slice q3 E.pl.length t3) HR6.out
            rw [← h4] at m4 b4
            have p0 : w4.cell? ⟨W.heap.size + 1 + 1, 0, none⟩ = some (.slice (some ⟨g, 0, none⟩) E.va.length t0) := by rw [cell_of b4]; rfl
            have p1 : w4.cell? ⟨W.heap.size + 1 + 1, 1, none⟩ = some (.slice (some ⟨G, 0, none⟩) E.fi.length t1) := by rw [cell_of b4]; rfl
            have p2 : w4.cell? ⟨W.heap.size + 1 + 1, 2, none⟩ = some (.slice q2 E.me.length t2) := by rw [cell_of b4]; rfl
            have p3 : w4.cell? ⟨W.heap.size + 1 + 1, 3, none⟩ = some (.slice q3 E.pl.length t3) := by rw [cell_of b4]; rfl
            clear h4
            refine bodyPost_ret (v := .agg #[.slice (some ⟨g, 0, none⟩) E.va.length t0, .slice (some ⟨G, 0, none⟩) E.fi.length t1, .slice q2 E.me.length t2, .slice q3 E.pl.length t3]) (by simp [results, Try.results84, go_sem, p0, p1, p2, p3]) rfl ?_
            have h8 := (HV0.out.ext w4x.out).cleared HU.out HFS.out (by simpa using HO5.out) HM5.out
            have h9 := h8.box m4 HR6.out
            have gw : Ext W w5 := (XV.out.trans w4x.out).own HM5.out HO4.out (by omega)
            rw [HS.out, show En.sw E k true = ⟨E.va.set k true, E.fi.set k (List.replicate l.length 0), E.me, E.pl⟩ by unfold En.sw; rw [En.rowAt_in HFS.out]]
            exact env_ret (Ext.mod gw m4 (fun k hk => by subst hk; omega)) (h9.base (by omega))
          · have hV0 : OwnE B1 (w3.setCell ⟨g, k, none⟩ (.bool true)) ⟨.slice (some ⟨g, 0, none⟩) E.va.length t0, .slice q1 E.fi.length t1, .slice q2 E.me.length t2, .slice q3 E.pl.length t3⟩ vs ⟨E.va.set k true, E.fi, E.me, E.pl⟩ := (O1.out.ext (grows (a := w1) (b := w3))).setVa rfl k true
            have HV0 := Lib.hid hV0
            have hob : (w3.setCell ⟨g, k, none⟩ (.bool true)).heap[w1.heap.size]? = some (.cells #[.slice (some ⟨g, 0, none⟩) E.va.length t0, .slice q1 E.fi.length t1, .slice q2 E.me.length t2, .slice q3 E.pl.length t3] 65) := heap_set_ne (p := ⟨g, k, none⟩) (alwB HBO.out w3) (by show w1.heap.size ≠ g; omega)
            have hrb : (w3.setCell ⟨g, k, none⟩ (.bool true)).heap[W.heap.size + 1 + 1]? = some (.cells #[.slice none 0 0, .slice none 0 0, .slice none 0 0, .slice none 0 0] 65) := heap_set_ne (p := ⟨g, k, none⟩) (alwB BR.out w3) (by show W.heap.size + 1 + 1 ≠ g; omega)
            have HOB := Lib.hid hob
            have HRB := Lib.hid hrb
            have xV : Ext W (w3.setCell ⟨g, k, none⟩ (.bool true)) := Ext.setCell (grows (a := W) (b := w3)) (by show W.heap.size ≤ g; omega) _
            have XV := Lib.hid xV
            have c0 := alw (show (w3.setCell ⟨g, k, none⟩ (.bool true)).cell? ⟨w1.heap.size, 0, none⟩ = some (.slice (some ⟨g, 0, none⟩) E.va.length t0) by rw [cell_of hob]; rfl)
            have c1 := alw (show (w3.setCell ⟨g, k, none⟩ (.bool true)).cell? ⟨w1.heap.size, 1, none⟩ = some (.slice q1 E.fi.length t1) by rw [cell_of hob]; rfl)
            have c2 := alw (show (w3.setCell ⟨g, k, none⟩ (.bool true)).cell? ⟨w1.heap.size, 2, none⟩ = some (.slice q2 E.me.length t2) by rw [cell_of hob]; rfl)
            have c3 := alw (show (w3.setCell ⟨g, k, none⟩ (.bool true)).cell? ⟨w1.heap.size, 3, none⟩ = some (.slice q3 E.pl.length t3) by rw [cell_of hob]; rfl)
            clear hV0 hob hrb xV
            go_wp2_with fail
            refine (atRow_out _ _ _ _ _ (.inr (by omega))).mono ?_
            rintro e w8 ⟨rfl, x4⟩
            have s4 := Step.mk x4
            have w4x := Lib.hid x4
            have HO4 : Hid (w8.ownsRow B1 39 1 (.slice none 0 0) 0 []) := Lib.hid (World.ownsRow_nil _ _ _ _)
            go_wp2_with (refine wpList_clear_own rfl (.tmp 47) 44 rfl 39 (.int .u32 0) 4 Try.underlying44 info_u32 rfl rfl (v := .slice none 0 0) rfl HO4.out ?_; intro w5 ho5 hm5; have ho6 : w5.heap[w1.heap.size]? = some (.cells #[.slice (some ⟨g, 0, none⟩) E.va.length t0, .slice q1 E.fi.length t1, .slice q2 E.me.length t2, .slice q3 E.pl.length t3] 65) := mod_box hm5 HO4.out (w4x.out.heap HOB.out) (by decide); have hr6 : w5.heap[W.heap.size + 1 + 1]? = some (.cells #[.slice none 0 0, .slice none 0 0, .slice none 0 0, .slice none 0 0] 65) := mod_box hm5 HO4.out (w4x.out.heap HRB.out) (by decide); have z0 : w5.cell? ⟨w1.heap.size, 0, none⟩ = some (.slice (some ⟨g, 0, none⟩) E.va.length t0) := (by rw [cell_of ho6]; rfl); have n0 : w5.cell? ⟨W.heap.size + 1 + 1, 0, none⟩ = some (.slice none 0 0) := (by rw [cell_of hr6]; rfl); have u0 : w5.frozen? ⟨W.heap.size + 1 + 1, 0, none⟩ = false := free_of hr6; have z1 : w5.cell? ⟨w1.heap.size, 1, none⟩ = some (.slice q1 E.fi.length t1) := (by rw [cell_of ho6]; rfl); have n1 : w5.cell? ⟨W.heap.size + 1 + 1, 1, none⟩ = some (.slice none 0 0) := (by rw [cell_of hr6]; rfl); have u1 : w5.frozen? ⟨W.heap.size + 1 + 1, 1, none⟩ = false := free_of hr6; have z2 : w5.cell? ⟨w1.heap.size, 2, none⟩ = some (.slice q2 E.me.length t2) := (by rw [cell_of ho6]; rfl); have n2 : w5.cell? ⟨W.heap.size + 1 + 1, 2, none⟩ = some (.slice none 0 0) := (by rw [cell_of hr6]; rfl); have u2 : w5.frozen? ⟨W.heap.size + 1 + 1, 2, none⟩ = false := free_of hr6; have z3 : w5.cell? ⟨w1.heap.size, 3, none⟩ = some (.slice q3 E.pl.length t3) := (by rw [cell_of ho6]; rfl); have n3 : w5.cell? ⟨W.heap.size + 1 + 1, 3, none⟩ = some (.slice none 0 0) := (by rw [cell_of hr6]; rfl); have u3 : w5.frozen? ⟨W.heap.size + 1 + 1, 3, none⟩ = false := free_of hr6; have HR6 := Lib.hid hr6; have HO5 := Lib.hid ho5; have HM5 := Lib.hid hm5; clear ho6 hr6 ho5 hm5)
            obtain ⟨w4, h4⟩ : ∃ w4, w4 = ((((w5.setCell ⟨W.heap.size + 1 + 1, 0, none⟩ (.slice (some ⟨g, 0, none⟩) E.va.length t0)).setCell ⟨W.heap.size + 1 + 1, 1, none⟩ (.slice q1 E.fi.length t1)).setCell ⟨W.heap.size + 1 + 1, 2, none⟩ (.slice q2 E.me.length t2)).setCell ⟨W.heap.size + 1 + 1, 3, none⟩ (.slice q3 E.pl.length t3)) := ⟨_, rfl⟩
            rw [← h4]
            obtain ⟨m4, b4⟩ := tower4 (.slice (some ⟨g, 0, none⟩) E.va.length t0) (.slice q1 E.fi.length t1) (.slice q2 E.me.length t2) (.slice q3 E.pl.length t3) HR6.out
            rw [← h4] at m4 b4
            have p0 : w4.cell? ⟨W.heap.size + 1 + 1, 0, none⟩ = some (.slice (some ⟨g, 0, none⟩) E.va.length t0) := by rw [cell_of b4]; rfl
            have p1 : w4.cell? ⟨W.heap.size + 1 + 1, 1, none⟩ = some (.slice q1 E.fi.length t1) := by rw [cell_of b4]; rfl
            have p2 : w4.cell? ⟨W.heap.size + 1 + 1, 2, none⟩ = some (.slice q2 E.me.length t2) := by rw [cell_of b4]; rfl
            have p3 : w4.cell? ⟨W.heap.size + 1 + 1, 3, none⟩ = some (.slice q3 E.pl.length t3) := by rw [cell_of b4]; rfl
            clear h4
            refine bodyPost_ret (v := .agg #[.slice (some ⟨g, 0, none⟩) E.va.length t0, .slice q1 E.fi.length t1, .slice q2 E.me.length t2, .slice q3 E.pl.length t3]) (by simp [results, Try.results84, go_sem, p0, p1, p2, p3]) rfl ?_
            have hx5 : Ext w8 w5 := ⟨HM5.out.os, HM5.out.tape, HM5.out.output, HM5.out.size, fun k hk => HM5.out.block k hk (by simp [Value.ownBlock])⟩
            have h9 := ((HV0.out.ext w4x.out).ext hx5).box m4 HR6.out
            have gw : Ext W w5 := (XV.out.trans w4x.out).trans hx5
            rw [HS.out, show En.sw E k true = ⟨E.va.set k true, E.fi, E.me, E.pl⟩ by unfold En.sw; rw [List.set_eq_of_length_le (l := E.fi) (by omega)]]
            exact env_ret (Ext.mod gw m4 (fun k hk => by subst hk; omega)) (h9.base (by omega))
        · have HS := Lib.hid (En.sw_yes (P := P) (E := E) (k := k) (valid := false) (keep := true) (by unfold En.swB; rw [hi1, hi2, HVX.out]; rfl))
          clear hi1 hi2 HVX
          go_enter Try.func84, Try.ntmps84
          go_wp2_with fail
          refine (HCL.out _ grows).mono ?_
          rintro e w1 ⟨ev, vs, rfl, x1, o1⟩
          have s1 := Step.mk x1
          obtain ⟨q0, q1, q2, q3, t0, t1, t2, t3, hg⟩ := o1.isE.form
          obtain ⟨rfl, jva, jfi, jme, jpl, l0, l1, l2, l3⟩ := hg
          dsimp only [Pg.EV.val]
          have bo := alloc_heap w1 (.cells #[.slice q0 E.va.length t0, .slice q1 E.fi.length t1, .slice q2 E.me.length t2, .slice q3 E.pl.length t3] 65)
          have ob0 := alw (cell_of (o := 0) bo)
          have ob1 := alw (cell_of (o := 1) bo)
          have ob2 := alw (cell_of (o := 2) bo)
          have ob3 := alw (cell_of (o := 3) bo)
          have HBO := Lib.hid bo
          clear bo
          obtain ⟨g, c, f1, va1, va2, va3, va4, va5, va6, va7⟩ := own_at (k := k) o1.va (by rw [List.getElem?_map, hxk]; rfl)
          simp only [Value.slice.injEq] at f1
          obtain ⟨rfl, -, rfl⟩ := f1
          unfold maxLen at va6
          obtain ⟨B1, hB1⟩ : ∃ B, B = (((W.alloc (.cells #[.string s, .slice a1 P.hs.length m1, .slice a2 P.md.length m2, .slice a3 n3 m3, .slice a4 n4 m4, .slice a5 n5 m5, .slice a6 n6 m6, .slice a7 n7 m7, .slice a8 P.dp.length m8] 61)).alloc (.cells #[.slice b0 E.va.length d0, .slice b1 E.fi.length d1, .slice b2 E.me.length d2, .slice b3 E.pl.length d3] 65)).alloc (.cells #[.slice none 0 0, .slice none 0 0, .slice none 0 0, .slice none 0 0] 65)).heap.size := ⟨_, rfl⟩
          rw [← hB1] at o1 va3
          simp only [World.size_alloc] at hB1
          have O1 := Lib.hid o1
          clear o1 jva jfi jme jpl x1
          go_wp2_with fail
          refine (HI1.out _).mono ?_
          rintro e w2 ⟨rfl, xw2⟩
          have sw2 := Step.mk xw2
          go_wp2_with fail
          refine (HI2.out _ _ _).mono ?_
          rintro e w3 ⟨rfl, xw3⟩
          have sw3 := Step.mk xw3
          by_cases hkf : k < E.fi.length
          · obtain ⟨l, hlk⟩ : ∃ l, E.fi[k]? = some l := ⟨_, List.getElem?_eq_getElem hkf⟩
            obtain ⟨u, hu, hor, _⟩ := O1.out.fi.row hlk
            obtain ⟨G, C, f1, f2, _, _, f3, f4, f5, f6⟩ := own_at (k := k) O1.out.fi.2.1 hu
            simp only [Value.slice.injEq] at f1
            obtain ⟨rfl, -, rfl⟩ := f1
            obtain ⟨ua, uc, rfl⟩ := own_slice hor
            have hV0 : OwnE B1 (w3.setCell ⟨g, k, none⟩ (.bool false)) ⟨.slice (some ⟨g, 0, none⟩) E.va.length t0, .slice (some ⟨G, 0, none⟩) E.fi.length t1, .slice q2 E.me.length t2, .slice q3 E.pl.length t3⟩ vs ⟨E.va.set k false, E.fi, E.me, E.pl⟩ := (O1.out.ext (grows (a := w1) (b := w3))).setVa rfl k false
            have HV0 := Lib.hid hV0
            have hob : (w3.setCell ⟨g, k, none⟩ (.bool false)).heap[w1.heap.size]? = some (.cells #[.slice (some ⟨g, 0, none⟩) E.va.length t0, .slice (some ⟨G, 0, none⟩) E.fi.length t1, .slice q2 E.me.length t2, .slice q3 E.pl.length t3] 65) := heap_set_ne (p := ⟨g, k, none⟩) (alwB HBO.out w3) (by show w1.heap.size ≠ g; omega)
            have hrb : (w3.setCell ⟨g, k, none⟩ (.bool false)).heap[W.heap.size + 1 + 1]? = some (.cells #[.slice none 0 0, .slice none 0 0, .slice none 0 0, .slice none 0 0] 65) := heap_set_ne (p := ⟨g, k, none⟩) (alwB BR.out w3) (by show W.heap.size + 1 + 1 ≠ g; omega)
            have HOB := Lib.hid hob
            have HRB := Lib.hid hrb
            have xV : Ext W (w3.setCell ⟨g, k, none⟩ (.bool false)) := Ext.setCell (grows (a := W) (b := w3)) (by show W.heap.size ≤ g; omega) _
            have XV := Lib.hid xV
            have c0 := alw (show (w3.setCell ⟨g, k, none⟩ (.bool false)).cell? ⟨w1.heap.size, 0, none⟩ = some (.slice (some ⟨g, 0, none⟩) E.va.length t0) by rw [cell_of hob]; rfl)
            have c1 := alw (show (w3.setCell ⟨g, k, none⟩ (.bool false)).cell? ⟨w1.heap.size, 1, none⟩ = some (.slice (some ⟨G, 0, none⟩) E.fi.length t1) by rw [cell_of hob]; rfl)
            have c2 := alw (show (w3.setCell ⟨g, k, none⟩ (.bool false)).cell? ⟨w1.heap.size, 2, none⟩ = some (.slice q2 E.me.length t2) by rw [cell_of hob]; rfl)
            have c3 := alw (show (w3.setCell ⟨g, k, none⟩ (.bool false)).cell? ⟨w1.heap.size, 3, none⟩ = some (.slice q3 E.pl.length t3) by rw [cell_of hob]; rfl)
            have hcu : (w3.setCell ⟨g, k, none⟩ (.bool false)).cell? ⟨G, 0 + k, none⟩ = some (.slice ua l.length uc) := by
              obtain ⟨u2, g1, g2, _⟩ := hV0.tabCell (G := G) rfl hkf
              obtain rfl := Option.some.inj (hu.symm.trans g1)
              rw [Nat.zero_add]; exact g2 _
            have HCU := Lib.hid hcu
            have hov := (hV0.fi.2.2.1 k _ l hu hlk).1
            have HOV := Lib.hid hov
            have HFS := Lib.hid hlk
            have HU := Lib.hid hu
            unfold maxLen at f5
            clear hV0 hob hrb xV hcu hov hlk hu hor
            go_wp2_with fail
            refine (atRow_in f6 HCU.out).mono ?_
            rintro e w8 ⟨rfl, x4⟩
            have s4 := Step.mk x4
            have w4x := Lib.hid x4
            have ho4 := own_ext HOV.out x4
            have HO4 := Lib.hid ho4
            clear ho4
            go_wp2_with (refine wpList_clear_own rfl (.tmp 47) 44 rfl 39 (.int .u32 0) 4 Try.underlying44 info_u32 rfl rfl (v := .slice ua l.length uc) rfl HO4.out ?_; intro w5 ho5 hm5; have ho6 : w5.heap[w1.heap.size]? = some (.cells #[.slice (some ⟨g, 0, none⟩) E.va.length t0, .slice (some ⟨G, 0, none⟩) E.fi.length t1, .slice q2 E.me.length t2, .slice q3 E.pl.length t3] 65) := mod_box hm5 HO4.out (w4x.out.heap HOB.out) (by decide); have hr6 : w5.heap[W.heap.size + 1 + 1]? = some (.cells #[.slice none 0 0, .slice none 0 0, .slice none 0 0, .slice none 0 0] 65) := mod_box hm5 HO4.out (w4x.out.heap HRB.out) (by decide); have z0 : w5.cell? ⟨w1.heap.size, 0, none⟩ = some (.slice (some ⟨g, 0, none⟩) E.va.length t0) := (by rw [cell_of ho6]; rfl); have n0 : w5.cell? ⟨W.heap.size + 1 + 1, 0, none⟩ = some (.slice none 0 0) := (by rw [cell_of hr6]; rfl); have u0 : w5.frozen? ⟨W.heap.size + 1 + 1, 0, none⟩ = false := free_of hr6; have z1 : w5.cell? ⟨w1.heap.size, 1, none⟩ = some (.slice (some ⟨G, 0, none⟩) E.fi.length t1) := (by rw [cell_of ho6]; rfl); have n1 : w5.cell? ⟨W.heap.size + 1 + 1, 1, none⟩ = some (.slice none 0 0) := (by rw [cell_of hr6]; rfl); have u1 : w5.frozen? ⟨W.heap.size + 1 + 1, 1, none⟩ = false := free_of hr6; have z2 : w5.cell? ⟨w1.heap.size, 2, none⟩ = some (.slice q2 E.me.length t2) := (by rw [cell_of ho6]; rfl); have n2 : w5.cell? ⟨W.heap.size + 1 + 1, 2, none⟩ = some (.slice none 0 0) := (by rw [cell_of hr6]; rfl); have u2 : w5.frozen? ⟨W.heap.size + 1 + 1, 2, none⟩ = false := free_of hr6; have z3 : w5.cell? ⟨w1.heap.size, 3, none⟩ = some (.slice q3 E.pl.length t3) := (by rw [cell_of ho6]; rfl); have n3 : w5.cell? ⟨W.heap.size + 1 + 1, 3, none⟩ = some (.slice none 0 0) := (by rw [cell_of hr6]; rfl); have u3 : w5.frozen? ⟨W.heap.size + 1 + 1, 3, none⟩ = false := free_of hr6; have HR6 := Lib.hid hr6; have HO5 := Lib.hid ho5; have HM5 := Lib.hid hm5; clear ho6 hr6 ho5 hm5)
            obtain ⟨w4, h4⟩ : ∃ w4, w4 = ((((w5.setCell ⟨W.heap.size + 1 + 1, 0, none⟩ (.slice (some ⟨g, 0, none⟩) E.va.length t0)).setCell ⟨W.heap.size + 1 + 1, 1, none⟩ (.slice (some ⟨G, 0, none⟩) E.fi.length t1)).setCell ⟨W.heap.size + 1 + 1, 2, none⟩ (.slice q2 E.me.length t2)).setCell ⟨W.heap.size + 1 + 1, 3, none⟩ (.slice q3 E.pl.length t3)) := ⟨_, rfl⟩
            rw [← h4]
            obtain ⟨m4, b4⟩ := tower4 (.slice (some ⟨g, 0, none⟩) E.va.length t0) (.slice (some ⟨G, 0, none⟩) E.fi.length t1) (.slice q2 E.me.length t2) (.slice q3 E.pl.length t3) HR6.out
            rw [← h4] at m4 b4
            have p0 : w4.cell? ⟨W.heap.size + 1 + 1, 0, none⟩ = some (.slice (some ⟨g, 0, none⟩) E.va.length t0) := by rw [cell_of b4]; rfl
            have p1 : w4.cell? ⟨W.heap.size + 1 + 1, 1, none⟩ = some (.slice (some ⟨G, 0, none⟩) E.fi.length t1) := by rw [cell_of b4]; rfl
            have p2 : w4.cell? ⟨W.heap.size + 1 + 1, 2, none⟩ = some (.slice q2 E.me.length t2) := by rw [cell_of b4]; rfl
            have p3 : w4.cell? ⟨W.heap.size + 1 + 1, 3, none⟩ = some (.slice q3 E.pl.length t3) := by rw [cell_of b4]; rfl
            clear h4
            refine bodyPost_ret (v := .agg #[.slice (some ⟨g, 0, none⟩) E.va.length t0, .slice (some ⟨G, 0, none⟩) E.fi.length t1, .slice q2 E.me.length t2, .slice q3 E.pl.length t3]) (by simp [results, Try.results84, go_sem, p0, p1, p2, p3]) rfl ?_
            have h8 := (HV0.out.ext w4x.out).cleared HU.out HFS.out (by simpa using HO5.out) HM5.out
            have h9 := h8.box m4 HR6.out
            have gw : Ext W w5 := (XV.out.trans w4x.out).own HM5.out HO4.out (by omega)
            rw [HS.out, show En.sw E k false = ⟨E.va.set k false, E.fi.set k (List.replicate l.length 0), E.me, E.pl⟩ by unfold En.sw; rw [En.rowAt_in HFS.out]]
            exact env_ret (Ext.mod gw m4 (fun k hk => by subst hk; omega)) (h9.base (by omega))
          · have hV0 : OwnE B1 (w3.setCell ⟨g, k, none⟩ (.bool false)) ⟨.slice (some ⟨g, 0, none⟩) E.va.length t0, .slice q1 E.fi.length t1, .slice q2 E.me.length t2, .slice q3 E.pl.length t3⟩ vs ⟨E.va.set k false, E.fi, E.me, E.pl⟩ := (O1.out.ext (grows (a := w1) (b := w3))).setVa rfl k false
            have HV0 := Lib.hid hV0
            have hob : (w3.setCell ⟨g, k, none⟩ (.bool false)).heap[w1.heap.size]? = some (.cells #[.slice (some ⟨g, 0, none⟩) E.va.length t0, .slice q1 E.fi.length t1, .slice q2 E.me.length t2, .slice q3 E.pl.length t3] 65) := heap_set_ne (p := ⟨g, k, none⟩) (alwB HBO.out w3) (by show w1.heap.size ≠ g; omega)
            have hrb : (w3.setCell ⟨g, k, none⟩ (.bool false)).heap[W.heap.size + 1 + 1]? = some (.cells #[.slice none 0 0, .slice none 0 0, .slice none 0 0, .slice none 0 0] 65) := heap_set_ne (p := ⟨g, k, none⟩) (alwB BR.out w3) (by show W.heap.size + 1 + 1 ≠ g; omega)
            have HOB := Lib.hid hob
            have HRB := Lib.hid hrb
            have xV : Ext W (w3.setCell ⟨g, k, none⟩ (.bool false)) := Ext.setCell (grows (a := W) (b := w3)) (by show W.heap.size ≤ g; omega) _
            have XV := Lib.hid xV
            have c0 := alw (show (w3.setCell ⟨g, k, none⟩ (.bool false)).cell? ⟨w1.heap.size, 0, none⟩ = some (.slice (some ⟨g, 0, none⟩) E.va.length t0) by rw [cell_of hob]; rfl)
            have c1 := alw (show (w3.setCell ⟨g, k, none⟩ (.bool false)).cell? ⟨w1.heap.size, 1, none⟩ = some (.slice q1 E.fi.length t1) by rw [cell_of hob]; rfl)
            have c2 := alw (show (w3.setCell ⟨g, k, none⟩ (.bool false)).cell? ⟨w1.heap.size, 2, none⟩ = some (.slice q2 E.me.length t2) by rw [cell_of hob]; rfl)
            have c3 := alw (show (w3.setCell ⟨g, k, none⟩ (.bool false)).cell? ⟨w1.heap.size, 3, none⟩ = some (.slice q3 E.pl.length t3) by rw [cell_of hob]; rfl)
            clear hV0 hob hrb xV
            go_wp2_with fail
            refine (atRow_out _ _ _ _ _ (.inr (by omega))).mono ?_
            rintro e w8 ⟨rfl, x4⟩
            have s4 := Step.mk x4
            have w4x := Lib.hid x4
            have HO4 : Hid (w8.ownsRow B1 39 1 (.slice none 0 0) 0 []) := Lib.hid (World.ownsRow_nil _ _ _ _)
            go_wp2_with (refine wpList_clear_own rfl (.tmp 47) 44 rfl 39 (.int .u32 0) 4 Try.underlying44 info_u32 rfl rfl (v := .slice none 0 0) rfl HO4.out ?_; intro w5 ho5 hm5; have ho6 : w5.heap[w1.heap.size]? = some (.cells #[.slice (some ⟨g, 0, none⟩) E.va.length t0, .slice q1 E.fi.length t1, .slice q2 E.me.length t2, .slice q3 E.pl.length t3] 65) := mod_box hm5 HO4.out (w4x.out.heap HOB.out) (by decide); have hr6 : w5.heap[W.heap.size + 1 + 1]? = some (.cells #[.slice none 0 0, .slice none 0 0, .slice none 0 0, .slice none 0 0] 65) := mod_box hm5 HO4.out (w4x.out.heap HRB.out) (by decide); have z0 : w5.cell? ⟨w1.heap.size, 0, none⟩ = some (.slice (some ⟨g, 0, none⟩) E.va.length t0) := (by rw [cell_of ho6]; rfl); have n0 : w5.cell? ⟨W.heap.size + 1 + 1, 0, none⟩ = some (.slice none 0 0) := (by rw [cell_of hr6]; rfl); have u0 : w5.frozen? ⟨W.heap.size + 1 + 1, 0, none⟩ = false := free_of hr6; have z1 : w5.cell? ⟨w1.heap.size, 1, none⟩ = some (.slice q1 E.fi.length t1) := (by rw [cell_of ho6]; rfl); have n1 : w5.cell? ⟨W.heap.size + 1 + 1, 1, none⟩ = some (.slice none 0 0) := (by rw [cell_of hr6]; rfl); have u1 : w5.frozen? ⟨W.heap.size + 1 + 1, 1, none⟩ = false := free_of hr6; have z2 : w5.cell? ⟨w1.heap.size, 2, none⟩ = some (.slice q2 E.me.length t2) := (by rw [cell_of ho6]; rfl); have n2 : w5.cell? ⟨W.heap.size + 1 + 1, 2, none⟩ = some (.slice none 0 0) := (by rw [cell_of hr6]; rfl); have u2 : w5.frozen? ⟨W.heap.size + 1 + 1, 2, none⟩ = false := free_of hr6; have z3 : w5.cell? ⟨w1.heap.size, 3, none⟩ = some (.slice q3 E.pl.length t3) := (by rw [cell_of ho6]; rfl); have n3 : w5.cell? ⟨W.heap.size + 1 + 1, 3, none⟩ = some (.slice none 0 0) := (by rw [cell_of hr6]; rfl); have u3 : w5.frozen? ⟨W.heap.size + 1 + 1, 3, none⟩ = false := free_of hr6; have HR6 := Lib.hid hr6; have HO5 := Lib.hid ho5; have HM5 := Lib.hid hm5; clear ho6 hr6 ho5 hm5)
            obtain ⟨w4, h4⟩ : ∃ w4, w4 = ((((w5.setCell ⟨W.heap.size + 1 + 1, 0, none⟩ (.slice (some ⟨g, 0, none⟩) E.va.length t0)).setCell ⟨W.heap.size + 1 + 1, 1, none⟩ (.slice q1 E.fi.length t1)).setCell ⟨W.heap.size + 1 + 1, 2, none⟩ (.slice q2 E.me.length t2)).setCell ⟨W.heap.size + 1 + 1, 3, none⟩ (.slice q3 E.pl.length t3)) := ⟨_, rfl⟩
            rw [← h4]
            obtain ⟨m4, b4⟩ := tower4 (.slice (some ⟨g, 0, none⟩) E.va.length t0) (.slice q1 E.fi.length t1) (.slice q2 E.me.length t2) (.slice q3 E.pl.length t3) HR6.out
            rw [← h4] at m4 b4
            have p0 : w4.cell? ⟨W.heap.size + 1 + 1, 0, none⟩ = some (.slice (some ⟨g, 0, none⟩) E.va.length t0) := by rw [cell_of b4]; rfl
            have p1 : w4.cell? ⟨W.heap.size + 1 + 1, 1, none⟩ = some (.slice q1 E.fi.length t1) := by rw [cell_of b4]; rfl
            have p2 : w4.cell? ⟨W.heap.size + 1 + 1, 2, none⟩ = some (.slice q2 E.me.length t2) := by rw [cell_of b4]; rfl
            have p3 : w4.cell? ⟨W.heap.size + 1 + 1, 3, none⟩ = some (.slice q3 E.pl.length t3) := by rw [cell_of b4]; rfl
            clear h4
            refine bodyPost_ret (v := .agg #[.slice (some ⟨g, 0, none⟩) E.va.length t0, .slice q1 E.fi.length t1, .slice q2 E.me.length t2, .slice q3 E.pl.length t3]) (by simp [results, Try.results84, go_sem, p0, p1, p2, p3]) rfl ?_
            have hx5 : Ext w8 w5 := ⟨HM5.out.os, HM5.out.tape, HM5.out.output, HM5.out.size, fun k hk => HM5.out.block k hk (by simp [Value.ownBlock])⟩
            have h9 := ((HV0.out.ext w4x.out).ext hx5).box m4 HR6.out
            have gw : Ext W w5 := (XV.out.trans w4x.out).trans hx5
            rw [HS.out, show En.sw E k false = ⟨E.va.set k false, E.fi, E.me, E.pl⟩ by unfold En.sw; rw [List.set_eq_of_length_le (l := E.fi) (by omega)]]
            exact env_ret (Ext.mod gw m4 (fun k hk => by subst hk; omega)) (h9.base (by omega))
        · have HS := Lib.hid (En.sw_no (P := P) (E := E) (h := k) (valid := true) (keep := true) (by unfold En.swB; rw [hi1, hi2, HVX.out]; rfl))
          clear hi1 hi2 HVX
          go_enter Try.func84, Try.ntmps84
          go_wp2_with fail
          refine (HCL.out _ grows).mono ?_
          rintro e w1 ⟨ev, vs, rfl, x1, o1⟩
          have s1 := Step.mk x1
          obtain ⟨q0, q1, q2, q3, t0, t1, t2, t3, hg⟩ := o1.isE.form
          obtain ⟨rfl, jva, jfi, jme, jpl, l0, l1, l2, l3⟩ := hg
          dsimp only [Pg.EV.val]
          have bo := alloc_heap w1 (.cells #[.slice q0 E.va.length t0, .slice q1 E.fi.length t1, .slice q2 E.me.length t2, .slice q3 E.pl.length t3] 65)
          have ob0 := alw (cell_of (o := 0) bo)
          have ob1 := alw (cell_of (o := 1) bo)
          have ob2 := alw (cell_of (o := 2) bo)
          have ob3 := alw (cell_of (o := 3) bo)
          have HBO := Lib.hid bo
          clear bo
          obtain ⟨g, c, f1, va1, va2, va3, va4, va5, va6, va7⟩ := own_at (k := k) o1.va (by rw [List.getElem?_map, hxk]; rfl)
          simp only [Value.slice.injEq] at f1
          obtain ⟨rfl, -, rfl⟩ := f1
          unfold maxLen at va6
          obtain ⟨B1, hB1⟩ : ∃ B, B = (((W.alloc (.cells #[.string s, .slice a1 P.hs.length m1, .slice a2 P.md.length m2, .slice a3 n3 m3, .slice a4 n4 m4, .slice a5 n5 m5, .slice a6 n6 m6, .slice a7 n7 m7, .slice a8 P.dp.length m8] 61)).alloc (.cells #[.slice b0 E.va.length d0, .slice b1 E.fi.length d1, .slice b2 E.me.length d2, .slice b3 E.pl.length d3] 65)).alloc (.cells #[.slice none 0 0, .slice none 0 0, .slice none 0 0, .slice none 0 0] 65)).heap.size := ⟨_, rfl⟩
          rw [← hB1] at o1 va3
          simp only [World.size_alloc] at hB1
          have O1 := Lib.hid o1
          clear o1 jva jfi jme jpl x1
          go_wp2_with fail
          refine (HI1.out _).mono ?_
          rintro e w2 ⟨rfl, xw2⟩
          have sw2 := Step.mk xw2
          go_wp2_with fail
          refine (HI2.out _ _ _).mono ?_
          rintro e w3 ⟨rfl, xw3⟩
          have sw3 := Step.mk xw3
          go_wp2_with fail
          obtain ⟨w4, h4⟩ : ∃ w4, w4 = ((((w3.setCell ⟨W.heap.size + 1 + 1, 0, none⟩ (.slice (some ⟨g, 0, none⟩) E.va.length t0)).setCell ⟨W.heap.size + 1 + 1, 1, none⟩ (.slice q1 E.fi.length t1)).setCell ⟨W.heap.size + 1 + 1, 2, none⟩ (.slice q2 E.me.length t2)).setCell ⟨W.heap.size + 1 + 1, 3, none⟩ (.slice q3 E.pl.length t3)) := ⟨_, rfl⟩
          rw [← h4]
          obtain ⟨m4, b4⟩ := tower4 (.slice (some ⟨g, 0, none⟩) E.va.length t0) (.slice q1 E.fi.length t1) (.slice q2 E.me.length t2) (.slice q3 E.pl.length t3) (alwB BR.out w3)
          rw [← h4] at m4 b4
          have z0 : w4.cell? ⟨W.heap.size + 1 + 1, 0, none⟩ = some (.slice (some ⟨g, 0, none⟩) E.va.length t0) := by rw [cell_of b4]; rfl
          have z1 : w4.cell? ⟨W.heap.size + 1 + 1, 1, none⟩ = some (.slice q1 E.fi.length t1) := by rw [cell_of b4]; rfl
          have z2 : w4.cell? ⟨W.heap.size + 1 + 1, 2, none⟩ = some (.slice q2 E.me.length t2) := by rw [cell_of b4]; rfl
          have z3 : w4.cell? ⟨W.heap.size + 1 + 1, 3, none⟩ = some (.slice q3 E.pl.length t3) := by rw [cell_of b4]; rfl
          clear h4
          refine bodyPost_ret (v := .agg #[.slice (some ⟨g, 0, none⟩) E.va.length t0, .slice q1 E.fi.length t1, .slice q2 E.me.length t2, .slice q3 E.pl.length t3]) (by simp [results, Try.results84, go_sem, z0, z1, z2, z3]) rfl ?_
          have h9 := (O1.out.ext (grows (a := w1) (b := w3))).box m4 (alwB BR.out w3)
          have gw : Ext W w3 := grows
          rw [HS.out]
          exact env_ret (Ext.mod gw m4 (fun k hk => by subst hk; omega)) (h9.base (by first | omega | (simp only [World.size_alloc]; omega)))
set_option maxRecDepth 8000 in
theorem eadd_any {W : World} {p : Pg.PV} {P : Pg.Prog} {e : Pg.EV} {E : Pg.Env} (hp : Pg.IsP W p P) (he : Pg.IsE W e E) (hc : En.CapE E) (h : Int) : Calls Try.prog 45 #[p.val, e.val, .int .i64 h] W (EnvP W (En.switch P E h true true)) := by
  have HSW := Lib.hid (fun w (hx : Ext W w) => switched_any (hp.ext hx) (he.ext hx) hc h true true)
  obtain ⟨s, a1, a2, a3, a4, a5, a6, a7, a8, m1, m2, n3, m3, n4, m4, n5, m5, n6, m6, n7, m7, m8, hf⟩ := hp.form
  obtain ⟨rfl, hhs, hmd, _, hl1, hl2, _⟩ := hf
  obtain ⟨b0, b1, b2, b3, d0, d1, d2, d3, hg⟩ := he.form
  obtain ⟨rfl, hva, hfi, hme, hpl, g0, g1, g2, g3⟩ := hg
  dsimp only [Pg.PV.val, Pg.EV.val] at HSW ⊢
  have bx := alloc_heap W (.cells #[.string s, .slice a1 P.hs.length m1, .slice a2 P.md.length m2, .slice a3 n3 m3, .slice a4 n4 m4, .slice a5 n5 m5, .slice a6 n6 m6, .slice a7 n7 m7, .slice a8 P.dp.length m8] 61)
  have k0 := alw (cell_of (o := 0) bx)
  have k1 := alw (cell_of (o := 1) bx)
  have k2 := alw (cell_of (o := 2) bx)
  have k3 := alw (cell_of (o := 3) bx)
  have k4 := alw (cell_of (o := 4) bx)
  have k5 := alw (cell_of (o := 5) bx)
  have k6 := alw (cell_of (o := 6) bx)
  have k7 := alw (cell_of (o := 7) bx)
  have k8 := alw (cell_of (o := 8) bx)
  clear bx
  have bx := alloc_heap (W.alloc (.cells #[.string s, .slice a1 P.hs.length m1, .slice a2 P.md.length m2, .slice a3 n3 m3, .slice a4 n4 m4, .slice a5 n5 m5, .slice a6 n6 m6, .slice a7 n7 m7, .slice a8 P.dp.length m8] 61)) (.cells #[.slice b0 E.va.length d0, .slice b1 E.fi.length d1, .slice b2 E.me.length d2, .slice b3 E.pl.length d3] 65)
  rw [World.size_alloc] at bx
  have em0 := alw (cell_of (o := 0) bx)
  have em1 := alw (cell_of (o := 1) bx)
  have em2 := alw (cell_of (o := 2) bx)
  have em3 := alw (cell_of (o := 3) bx)
  clear bx
  have bx := alloc_heap ((W.alloc (.cells #[.string s, .slice a1 P.hs.length m1, .slice a2 P.md.length m2, .slice a3 n3 m3, .slice a4 n4 m4, .slice a5 n5 m5, .slice a6 n6 m6, .slice a7 n7 m7, .slice a8 P.dp.length m8] 61)).alloc (.cells #[.slice b0 E.va.length d0, .slice b1 E.fi.length d1, .slice b2 E.me.length d2, .slice b3 E.pl.length d3] 65)) (.cells #[.slice none 0 0, .slice none 0 0, .slice none 0 0, .slice none 0 0] 65)
  rw [World.size_alloc, World.size_alloc] at bx
  have r0 := alw (cell_of (o := 0) bx)
  have r1 := alw (cell_of (o := 1) bx)
  have r2 := alw (cell_of (o := 2) bx)
  have r3 := alw (cell_of (o := 3) bx)
  have er0 := alwF (o := 0) bx
  have er1 := alwF (o := 1) bx
  have er2 := alwF (o := 2) bx
  have er3 := alwF (o := 3) bx
  have BR := Lib.hid bx
  clear bx
  clear hp he hhs hmd hva hfi hme hpl hc
  obtain ⟨E2, hE2⟩ : ∃ E2, E2 = En.switch P E h true true := ⟨_, rfl⟩
  rw [← hE2] at HSW ⊢
  clear hE2
  go_enter Try.func45, Try.ntmps45
  go_wp2_with fail
  refine (HSW.out _ grows).mono ?_
  rintro e w1 ⟨ev, vs, rfl, x1, o1⟩
  have s1 := Step.mk x1
  obtain ⟨q0, q1, q2, q3, t0, t1, t2, t3, hg⟩ := o1.isE.form
  obtain ⟨rfl, jva, jfi, jme, jpl, l0, l1, l2, l3⟩ := hg
  dsimp only [Pg.EV.val]
  have O1 := Lib.hid o1
  clear o1 jva jfi jme jpl x1
  go_wp2_with fail
  obtain ⟨w4, h4⟩ : ∃ w4, w4 = ((((w1.setCell ⟨W.heap.size + 1 + 1, 0, none⟩ (.slice q0 E2.va.length t0)).setCell ⟨W.heap.size + 1 + 1, 1, none⟩ (.slice q1 E2.fi.length t1)).setCell ⟨W.heap.size + 1 + 1, 2, none⟩ (.slice q2 E2.me.length t2)).setCell ⟨W.heap.size + 1 + 1, 3, none⟩ (.slice q3 E2.pl.length t3)) := ⟨_, rfl⟩
  rw [← h4]
  obtain ⟨m4, b4⟩ := tower4 (.slice q0 E2.va.length t0) (.slice q1 E2.fi.length t1) (.slice q2 E2.me.length t2) (.slice q3 E2.pl.length t3) (alwB BR.out w1)
  rw [← h4] at m4 b4
  have y0 : w4.cell? ⟨W.heap.size + 1 + 1, 0, none⟩ = some (.slice q0 E2.va.length t0) := by rw [cell_of b4]; rfl
  have y1 : w4.cell? ⟨W.heap.size + 1 + 1, 1, none⟩ = some (.slice q1 E2.fi.length t1) := by rw [cell_of b4]; rfl
  have y2 : w4.cell? ⟨W.heap.size + 1 + 1, 2, none⟩ = some (.slice q2 E2.me.length t2) := by rw [cell_of b4]; rfl
  have y3 : w4.cell? ⟨W.heap.size + 1 + 1, 3, none⟩ = some (.slice q3 E2.pl.length t3) := by rw [cell_of b4]; rfl
  clear h4
  refine bodyPost_ret (v := .agg #[.slice q0 E2.va.length t0, .slice q1 E2.fi.length t1, .slice q2 E2.me.length t2, .slice q3 E2.pl.length t3]) (by simp [results, Try.results45, go_sem, y0, y1, y2, y3]) rfl ?_
  have gw : Ext W w1 := grows
  exact env_ret (Ext.mod gw m4 (fun k hk => by subst hk; omega)) ((O1.out.box m4 (alwB BR.out w1)).base (by simp only [World.size_alloc]; omega))
set_option maxRecDepth 8000 in
theorem erem_any {W : World} {p : Pg.PV} {P : Pg.Prog} {e : Pg.EV} {E : Pg.Env} (hp : Pg.IsP W p P) (he : Pg.IsE W e E) (hc : En.CapE E) (h : Int) : Calls Try.prog 47 #[p.val, e.val, .int .i64 h] W (EnvP W (En.switch P E h false false)) := by
  have HSW := Lib.hid (fun w (hx : Ext W w) => switched_any (hp.ext hx) (he.ext hx) hc h false false)
  obtain ⟨s, a1, a2, a3, a4, a5, a6, a7, a8, m1, m2, n3, m3, n4, m4, n5, m5, n6, m6, n7, m7, m8, hf⟩ := hp.form
  obtain ⟨rfl, hhs, hmd, _, hl1, hl2, _⟩ := hf
  obtain ⟨b0, b1, b2, b3, d0, d1, d2, d3, hg⟩ := he.form
  obtain ⟨rfl, hva, hfi, hme, hpl, g0, g1, g2, g3⟩ := hg
  dsimp only [Pg.PV.val, Pg.EV.val] at HSW ⊢
  have bx := alloc_heap W (.cells #[.string s, .slice a1 P.hs.length m1, .slice a2 P.md.length m2, .slice a3 n3 m3, .slice a4 n4 m4, .slice a5 n5 m5, .slice a6 n6 m6, .slice a7 n7 m7, .slice a8 P.dp.length m8] 61)
  have k0 := alw (cell_of (o := 0) bx)
  have k1 := alw (cell_of (o := 1) bx)
  have k2 := alw (cell_of (o := 2) bx)
  have k3 := alw (cell_of (o := 3) bx)
  have k4 := alw (cell_of (o := 4) bx)
  have k5 := alw (cell_of (o := 5) bx)
  have k6 := alw (cell_of (o := 6) bx)
  have k7 := alw (cell_of (o := 7) bx)
  have k8 := alw (cell_of (o := 8) bx)
  clear bx
  have bx := alloc_heap (W.alloc (.cells #[.string s, .slice a1 P.hs.length m1, .slice a2 P.md.length m2, .slice a3 n3 m3, .slice a4 n4 m4, .slice a5 n5 m5, .slice a6 n6 m6, .slice a7 n7 m7, .slice a8 P.dp.length m8] 61)) (.cells #[.slice b0 E.va.length d0, .slice b1 E.fi.length d1, .slice b2 E.me.length d2, .slice b3 E.pl.length d3] 65)
  rw [World.size_alloc] at bx
  have em0 := alw (cell_of (o := 0) bx)
  have em1 := alw (cell_of (o := 1) bx)
  have em2 := alw (cell_of (o := 2) bx)
  have em3 := alw (cell_of (o := 3) bx)
  clear bx
  have bx := alloc_heap ((W.alloc (.cells #[.string s, .slice a1 P.hs.length m1, .slice a2 P.md.length m2, .slice a3 n3 m3, .slice a4 n4 m4, .slice a5 n5 m5, .slice a6 n6 m6, .slice a7 n7 m7, .slice a8 P.dp.length m8] 61)).alloc (.cells #[.slice b0 E.va.length d0, .slice b1 E.fi.length d1, .slice b2 E.me.length d2, .slice b3 E.pl.length d3] 65)) (.cells #[.slice none 0 0, .slice none 0 0, .slice none 0 0, .slice none 0 0] 65)
  rw [World.size_alloc, World.size_alloc] at bx
  have r0 := alw (cell_of (o := 0) bx)
  have r1 := alw (cell_of (o := 1) bx)
  have r2 := alw (cell_of (o := 2) bx)
  have r3 := alw (cell_of (o := 3) bx)
  have er0 := alwF (o := 0) bx
  have er1 := alwF (o := 1) bx
  have er2 := alwF (o := 2) bx
  have er3 := alwF (o := 3) bx
  have BR := Lib.hid bx
  clear bx
  clear hp he hhs hmd hva hfi hme hpl hc
  obtain ⟨E2, hE2⟩ : ∃ E2, E2 = En.switch P E h false false := ⟨_, rfl⟩
  rw [← hE2] at HSW ⊢
  clear hE2
  go_enter Try.func47, Try.ntmps47
  go_wp2_with fail
  refine (HSW.out _ grows).mono ?_
  rintro e w1 ⟨ev, vs, rfl, x1, o1⟩
  have s1 := Step.mk x1
  obtain ⟨q0, q1, q2, q3, t0, t1, t2, t3, hg⟩ := o1.isE.form
  obtain ⟨rfl, jva, jfi, jme, jpl, l0, l1, l2, l3⟩ := hg
  dsimp only [Pg.EV.val]
  have O1 := Lib.hid o1
  clear o1 jva jfi jme jpl x1
  go_wp2_with fail
  obtain ⟨w4, h4⟩ : ∃ w4, w4 = ((((w1.setCell ⟨W.heap.size + 1 + 1, 0, none⟩ (.slice q0 E2.va.length t0)).setCell ⟨W.heap.size + 1 + 1, 1, none⟩ (.slice q1 E2.fi.length t1)).setCell ⟨W.heap.size + 1 + 1, 2, none⟩ (.slice q2 E2.me.length t2)).setCell ⟨W.heap.size + 1 + 1, 3, none⟩ (.slice q3 E2.pl.length t3)) := ⟨_, rfl⟩
  rw [← h4]
  obtain ⟨m4, b4⟩ := tower4 (.slice q0 E2.va.length t0) (.slice q1 E2.fi.length t1) (.slice q2 E2.me.length t2) (.slice q3 E2.pl.length t3) (alwB BR.out w1)
  rw [← h4] at m4 b4
  have y0 : w4.cell? ⟨W.heap.size + 1 + 1, 0, none⟩ = some (.slice q0 E2.va.length t0) := by rw [cell_of b4]; rfl
  have y1 : w4.cell? ⟨W.heap.size + 1 + 1, 1, none⟩ = some (.slice q1 E2.fi.length t1) := by rw [cell_of b4]; rfl
  have y2 : w4.cell? ⟨W.heap.size + 1 + 1, 2, none⟩ = some (.slice q2 E2.me.length t2) := by rw [cell_of b4]; rfl
  have y3 : w4.cell? ⟨W.heap.size + 1 + 1, 3, none⟩ = some (.slice q3 E2.pl.length t3) := by rw [cell_of b4]; rfl
  clear h4
  refine bodyPost_ret (v := .agg #[.slice q0 E2.va.length t0, .slice q1 E2.fi.length t1, .slice q2 E2.me.length t2, .slice q3 E2.pl.length t3]) (by simp [results, Try.results47, go_sem, y0, y1, y2, y3]) rfl ?_
  have gw : Ext W w1 := grows
  exact env_ret (Ext.mod gw m4 (fun k hk => by subst hk; omega)) ((O1.out.box m4 (alwB BR.out w1)).base (by simp only [World.size_alloc]; omega))
end Go.Proofs.Ytdgepbolfflidaa
namespace Go.Proofs.Ytdgepbolfflidaa
open Go.RowKit

set_option maxRecDepth 8000 in
set_option maxHeartbeats 8000000 in
theorem validity_any {W : World} {e : Pg.EV} {E : Pg.Env} (he : Pg.IsE W e E) (hc : En.CapE E) (k : Nat) (hk : k < E.va.length) (b : Bool) :
    Calls Try.prog 85 #[e.val, .int .i64 k, .bool b] W (EnvP W (En.sw E k b)) := by
  have HCL := Lib.hid (fun w (hx : Ext W w) => refclone_any (he.ext hx) hc)
  obtain ⟨b0, b1, b2, b3, d0, d1, d2, d3, hg⟩ := he.form
  obtain ⟨rfl, hva, hfi, hme, hpl, g0, g1, g2, g3⟩ := hg
  dsimp only [Pg.EV.val] at HCL ⊢
  have bx := alloc_heap W (.cells #[.slice b0 E.va.length d0, .slice b1 E.fi.length d1, .slice b2 E.me.length d2, .slice b3 E.pl.length d3] 65)
  have em0 := alw (cell_of (o := 0) bx)
  have em1 := alw (cell_of (o := 1) bx)
  have em2 := alw (cell_of (o := 2) bx)
  have em3 := alw (cell_of (o := 3) bx)
  clear bx
  have bx := alloc_heap (W.alloc (.cells #[.slice b0 E.va.length d0, .slice b1 E.fi.length d1, .slice b2 E.me.length d2, .slice b3 E.pl.length d3] 65)) (.cells #[.slice none 0 0, .slice none 0 0, .slice none 0 0, .slice none 0 0] 65)
  rw [World.size_alloc] at bx
  have r0 := alw (cell_of (o := 0) bx)
  have r1 := alw (cell_of (o := 1) bx)
  have r2 := alw (cell_of (o := 2) bx)
  have r3 := alw (cell_of (o := 3) bx)
  have er0 := alwF (o := 0) bx
  have er1 := alwF (o := 1) bx
  have er2 := alwF (o := 2) bx
  have er3 := alwF (o := 3) bx
  have BR := Lib.hid bx
  clear bx
  obtain ⟨hc1, hc2, hc3, hc4, hc5⟩ := hc
  have H5 := Lib.hid hc5
  clear he hva hfi hme hpl hc5
  obtain ⟨x, hxk⟩ : ∃ x, E.va[k]? = some x := ⟨_, List.getElem?_eq_getElem hk⟩
  go_enter Try.func85, Try.ntmps85
  go_wp2_with fail
  refine (HCL.out _ grows).mono ?_
  rintro e w1 ⟨ev, vs, rfl, x1, o1⟩
  have s1 := Step.mk x1
  obtain ⟨q0, q1, q2, q3, t0, t1, t2, t3, hg⟩ := o1.isE.form
  obtain ⟨rfl, jva, jfi, jme, jpl, l0, l1, l2, l3⟩ := hg
  dsimp only [Pg.EV.val]
  have bo := alloc_heap w1 (.cells #[.slice q0 E.va.length t0, .slice q1 E.fi.length t1, .slice q2 E.me.length t2, .slice q3 E.pl.length t3] 65)
  have ob0 := alw (cell_of (o := 0) bo)
  have ob1 := alw (cell_of (o := 1) bo)
  have ob2 := alw (cell_of (o := 2) bo)
  have ob3 := alw (cell_of (o := 3) bo)
  have HBO := Lib.hid bo
  clear bo
  obtain ⟨g, c, f1, va1, va2, va3, va4, va5, va6, va7⟩ := own_at (k := k) o1.va (by rw [List.getElem?_map, hxk]; rfl)
  simp only [Value.slice.injEq] at f1
  obtain ⟨rfl, -, rfl⟩ := f1
  unfold maxLen at va6
  obtain ⟨B1, hB1⟩ : ∃ B, B = ((W.alloc (.cells #[.slice b0 E.va.length d0, .slice b1 E.fi.length d1, .slice b2 E.me.length d2, .slice b3 E.pl.length d3] 65)).alloc (.cells #[.slice none 0 0, .slice none 0 0, .slice none 0 0, .slice none 0 0] 65)).heap.size := ⟨_, rfl⟩
  rw [← hB1] at o1 va3
  simp only [World.size_alloc] at hB1
  have O1 := Lib.hid o1
  clear o1 jva jfi jme jpl x1
  by_cases hkf : k < E.fi.length
  · obtain ⟨l, hlk⟩ : ∃ l, E.fi[k]? = some l := ⟨_, List.getElem?_eq_getElem hkf⟩
    obtain ⟨u, hu, hor, _⟩ := O1.out.fi.row hlk
    obtain ⟨G, C, f1, f2, _, f7, f3, f4, f5, f6⟩ := own_at (k := k) O1.out.fi.2.1 hu
    simp only [Value.slice.injEq] at f1
    obtain ⟨rfl, -, rfl⟩ := f1
    obtain ⟨ua, uc, rfl⟩ := own_slice hor
    have hl5 := H5.out l (List.mem_of_getElem? hlk)
    have hV0 : OwnE B1 (w1.setCell ⟨g, k, none⟩ (.bool b)) ⟨.slice (some ⟨g, 0, none⟩) E.va.length t0, .slice (some ⟨G, 0, none⟩) E.fi.length t1, .slice q2 E.me.length t2, .slice q3 E.pl.length t3⟩ vs ⟨E.va.set k b, E.fi, E.me, E.pl⟩ := O1.out.setVa rfl k b
    have szV : (w1.setCell ⟨g, k, none⟩ (.bool b)).heap.size = w1.heap.size := by simp [World.setCell]
    have hrb : (w1.setCell ⟨g, k, none⟩ (.bool b)).heap[W.heap.size + 1]? = some (.cells #[.slice none 0 0, .slice none 0 0, .slice none 0 0, .slice none 0 0] 65) := heap_set_ne (p := ⟨g, k, none⟩) (alwB BR.out w1) (by show W.heap.size + 1 ≠ g; omega)
    have hob : ((w1.setCell ⟨g, k, none⟩ (.bool b)).alloc (.cells #[.slice (some ⟨g, 0, none⟩) E.va.length t0, .slice (some ⟨G, 0, none⟩) E.fi.length t1, .slice q2 E.me.length t2, .slice q3 E.pl.length t3] 65)).heap[w1.heap.size]? = some (.cells #[.slice (some ⟨g, 0, none⟩) E.va.length t0, .slice (some ⟨G, 0, none⟩) E.fi.length t1, .slice q2 E.me.length t2, .slice q3 E.pl.length t3] 65) := by have h := alloc_heap (w1.setCell ⟨g, k, none⟩ (.bool b)) (.cells #[.slice (some ⟨g, 0, none⟩) E.va.length t0, .slice (some ⟨G, 0, none⟩) E.fi.length t1, .slice q2 E.me.length t2, .slice q3 E.pl.length t3] 65); rw [szV] at h; exact h
    have HV0 := Lib.hid hV0
    have HRB := Lib.hid hrb
    have HOB := Lib.hid hob
    have SZV := Lib.hid szV
    have xV : Ext W ((w1.setCell ⟨g, k, none⟩ (.bool b)).alloc (.cells #[.slice (some ⟨g, 0, none⟩) E.va.length t0, .slice (some ⟨G, 0, none⟩) E.fi.length t1, .slice q2 E.me.length t2, .slice q3 E.pl.length t3] 65)) := (Ext.setCell (grows (a := W) (b := w1)) (by show W.heap.size ≤ g; omega) _).alloc _
    have XV := Lib.hid xV
    have c0 := alw (show ((w1.setCell ⟨g, k, none⟩ (.bool b)).alloc (.cells #[.slice (some ⟨g, 0, none⟩) E.va.length t0, .slice (some ⟨G, 0, none⟩) E.fi.length t1, .slice q2 E.me.length t2, .slice q3 E.pl.length t3] 65)).cell? ⟨w1.heap.size, 0, none⟩ = some (.slice (some ⟨g, 0, none⟩) E.va.length t0) by rw [cell_of hob]; rfl)
    have n0 := alw (show (w1.setCell ⟨g, k, none⟩ (.bool b)).cell? ⟨W.heap.size + 1, 0, none⟩ = some (.slice none 0 0) by rw [cell_of hrb]; rfl)
    have u0 := alwF (o := 0) hrb
    have c1 := alw (show ((w1.setCell ⟨g, k, none⟩ (.bool b)).alloc (.cells #[.slice (some ⟨g, 0, none⟩) E.va.length t0, .slice (some ⟨G, 0, none⟩) E.fi.length t1, .slice q2 E.me.length t2, .slice q3 E.pl.length t3] 65)).cell? ⟨w1.heap.size, 1, none⟩ = some (.slice (some ⟨G, 0, none⟩) E.fi.length t1) by rw [cell_of hob]; rfl)
    have n1 := alw (show (w1.setCell ⟨g, k, none⟩ (.bool b)).cell? ⟨W.heap.size + 1, 1, none⟩ = some (.slice none 0 0) by rw [cell_of hrb]; rfl)
    have u1 := alwF (o := 1) hrb
    have c2 := alw (show ((w1.setCell ⟨g, k, none⟩ (.bool b)).alloc (.cells #[.slice (some ⟨g, 0, none⟩) E.va.length t0, .slice (some ⟨G, 0, none⟩) E.fi.length t1, .slice q2 E.me.length t2, .slice q3 E.pl.length t3] 65)).cell? ⟨w1.heap.size, 2, none⟩ = some (.slice q2 E.me.length t2) by rw [cell_of hob]; rfl)
    have n2 := alw (show (w1.setCell ⟨g, k, none⟩ (.bool b)).cell? ⟨W.heap.size + 1, 2, none⟩ = some (.slice none 0 0) by rw [cell_of hrb]; rfl)
    have u2 := alwF (o := 2) hrb
    have c3 := alw (show ((w1.setCell ⟨g, k, none⟩ (.bool b)).alloc (.cells #[.slice (some ⟨g, 0, none⟩) E.va.length t0, .slice (some ⟨G, 0, none⟩) E.fi.length t1, .slice q2 E.me.length t2, .slice q3 E.pl.length t3] 65)).cell? ⟨w1.heap.size, 3, none⟩ = some (.slice q3 E.pl.length t3) by rw [cell_of hob]; rfl)
    have n3 := alw (show (w1.setCell ⟨g, k, none⟩ (.bool b)).cell? ⟨W.heap.size + 1, 3, none⟩ = some (.slice none 0 0) by rw [cell_of hrb]; rfl)
    have u3 := alwF (o := 3) hrb
    obtain ⟨u2, gg1, gg2, gg3⟩ := hV0.tabCell (G := G) rfl hkf
    obtain rfl := Option.some.inj (hu.symm.trans gg1)
    have HFS := Lib.hid hlk
    unfold maxLen at f5
    clear hV0 hob hrb xV hlk hu hor gg1 szV f2
    go_wp2_with fail
    refine Rel.region_tail (W := ((w1.setCell ⟨g, k, none⟩ (.bool b)).alloc (.cells #[.slice (some ⟨g, 0, none⟩) E.va.length t0, .slice (some ⟨G, 0, none⟩) E.fi.length t1, .slice q2 E.me.length t2, .slice q3 E.pl.length t3] 65))) 11 (Rel.tab [(9, fun v w => ∃ gz, v = .slice (some ⟨gz, 0, none⟩) (l.length) (l.length) ∧ Rel.Fresh ((w1.setCell ⟨g, k, none⟩ (.bool b)).alloc (.cells #[.slice (some ⟨g, 0, none⟩) E.va.length t0, .slice (some ⟨G, 0, none⟩) E.fi.length t1, .slice q2 E.me.length t2, .slice q3 E.pl.length t3] 65)) gz (.cells (madeCells #[.int .u32 0] (l.length)) 39) w)]) (Rel.tab_lasts (by intro p hp v w w' hr hx; simp only [List.mem_cons, List.not_mem_nil, or_false] at hp; subst hp; obtain ⟨g, e1, e2⟩ := hr; exact ⟨g, e1, e2.ext hx⟩)) (by kernel_rfl) (by kernel_rfl) (Ext.refl _) ?_
    simp only [List.take_succ_cons, List.take_zero]
    refine Rel.chunkT 9 rfl rfl rfl ?_
    simp only [List.take_succ_cons, List.take_zero, List.drop_succ_cons, List.drop_zero, Nat.reduceAdd]
    repeat (go_big_quiet_step (fail))
    refine wpQuiet_nil ?_
    refine Rel.mk (l.length) (.int .u32 0) rfl rfl rfl rfl rfl rfl (mk_row l.length (by omega)) ?_
    intro gr yr _ _ hr4
    simp only [Act.put, List.setIfInBounds_toArray, List.set_cons_succ, List.set_cons_zero]
    refine Rel.chunkT 1 rfl rfl rfl ?_
    simp only [List.take_succ_cons, List.take_zero, List.drop_succ_cons, List.drop_zero, Nat.reduceAdd]
    repeat (go_big_quiet_step (fail))
    refine wpQuiet_nil ?_
    refine Rel.fin ?_
    intro w3 x3 hf3
    obtain ⟨g', e1, e2, e3⟩ := (hf3 9).2 rfl
    simp only [Value.slice.injEq, Option.some.injEq, Addr.mk.injEq, and_true] at e1
    subst e1
    have s3 := Step.mk x3
    have HX3 := Lib.hid x3
    have FR := Lib.hid e3
    have gr3 : w1.heap.size ≤ gr := by rw [World.size_alloc] at e2; have := SZV.out; omega
    clear hf3 hr4 e2 e3 x3
    refine wpList_store_cell rfl 44 (.tmp 30) (.tmp 29) rfl G k (.slice ua l.length uc) (.slice (some ⟨gr, 0, none⟩) l.length l.length) rfl rfl (by kernel_rfl) rfl (gg2 w3) (gg3 w3) ?_
    intro w6 e6
    have ho6 : w6.heap[w1.heap.size]? = some (.cells #[.slice (some ⟨g, 0, none⟩) E.va.length t0, .slice (some ⟨G, 0, none⟩) E.fi.length t1, .slice q2 E.me.length t2, .slice q3 E.pl.length t3] 65) := by rw [e6]; exact heap_set_ne (alwB HOB.out w3) (by show w1.heap.size ≠ G; omega)
    have hr6 : w6.heap[W.heap.size + 1]? = some (.cells #[.slice none 0 0, .slice none 0 0, .slice none 0 0, .slice none 0 0] 65) := by rw [e6]; exact heap_set_ne (alwB HRB.out w3) (by show W.heap.size + 1 ≠ G; omega)
    have h3 : OwnE B1 w3 ⟨.slice (some ⟨g, 0, none⟩) E.va.length t0, .slice (some ⟨G, 0, none⟩) E.fi.length t1, .slice q2 E.me.length t2, .slice q3 E.pl.length t3⟩ vs ⟨E.va.set k b, E.fi, E.me, E.pl⟩ := HV0.out.ext grows
    have h6 := h3.setRow (l := List.replicate l.length 0) rfl hkf (by have h := own_fresh (B := B1) FR.out (by omega) (by unfold maxLen; omega); simpa using h) zero_u32 (fun j u hu e1 => by have h1 := O1.out.fi.lt hu e1; omega) (fun e1 => by have h1 := own_lt O1.out.me e1; omega)
    rw [← e6] at h6
    have H6 := Lib.hid h6
    have gw : Ext W w6 := by rw [e6]; exact Ext.setCell (XV.out.trans HX3.out) (by show W.heap.size ≤ G; omega) _
    have GW := Lib.hid gw
    have z0 : w6.cell? ⟨w1.heap.size, 0, none⟩ = some (.slice (some ⟨g, 0, none⟩) E.va.length t0) := by rw [cell_of ho6]; rfl
    have n0 : w6.cell? ⟨W.heap.size + 1, 0, none⟩ = some (.slice none 0 0) := by rw [cell_of hr6]; rfl
    have u0 : w6.frozen? ⟨W.heap.size + 1, 0, none⟩ = false := free_of hr6
    have z1 : w6.cell? ⟨w1.heap.size, 1, none⟩ = some (.slice (some ⟨G, 0, none⟩) E.fi.length t1) := by rw [cell_of ho6]; rfl
    have n1 : w6.cell? ⟨W.heap.size + 1, 1, none⟩ = some (.slice none 0 0) := by rw [cell_of hr6]; rfl
    have u1 : w6.frozen? ⟨W.heap.size + 1, 1, none⟩ = false := free_of hr6
    have z2 : w6.cell? ⟨w1.heap.size, 2, none⟩ = some (.slice q2 E.me.length t2) := by rw [cell_of ho6]; rfl
    have n2 : w6.cell? ⟨W.heap.size + 1, 2, none⟩ = some (.slice none 0 0) := by rw [cell_of hr6]; rfl
    have u2 : w6.frozen? ⟨W.heap.size + 1, 2, none⟩ = false := free_of hr6
    have z3 : w6.cell? ⟨w1.heap.size, 3, none⟩ = some (.slice q3 E.pl.length t3) := by rw [cell_of ho6]; rfl
    have n3 : w6.cell? ⟨W.heap.size + 1, 3, none⟩ = some (.slice none 0 0) := by rw [cell_of hr6]; rfl
    have u3 : w6.frozen? ⟨W.heap.size + 1, 3, none⟩ = false := free_of hr6
    have HR6 := Lib.hid hr6
    clear ho6 hr6 h3 h6 gw e6
    go_wp2_with fail
    obtain ⟨w4, h4⟩ : ∃ w4, w4 = ((((w6.setCell ⟨W.heap.size + 1, 0, none⟩ (.slice (some ⟨g, 0, none⟩) E.va.length t0)).setCell ⟨W.heap.size + 1, 1, none⟩ (.slice (some ⟨G, 0, none⟩) E.fi.length t1)).setCell ⟨W.heap.size + 1, 2, none⟩ (.slice q2 E.me.length t2)).setCell ⟨W.heap.size + 1, 3, none⟩ (.slice q3 E.pl.length t3)) := ⟨_, rfl⟩
    rw [← h4]
    obtain ⟨m4, b4⟩ := tower4 (.slice (some ⟨g, 0, none⟩) E.va.length t0) (.slice (some ⟨G, 0, none⟩) E.fi.length t1) (.slice q2 E.me.length t2) (.slice q3 E.pl.length t3) HR6.out
    rw [← h4] at m4 b4
    have p0 : w4.cell? ⟨W.heap.size + 1, 0, none⟩ = some (.slice (some ⟨g, 0, none⟩) E.va.length t0) := by rw [cell_of b4]; rfl
    have p1 : w4.cell? ⟨W.heap.size + 1, 1, none⟩ = some (.slice (some ⟨G, 0, none⟩) E.fi.length t1) := by rw [cell_of b4]; rfl
    have p2 : w4.cell? ⟨W.heap.size + 1, 2, none⟩ = some (.slice q2 E.me.length t2) := by rw [cell_of b4]; rfl
    have p3 : w4.cell? ⟨W.heap.size + 1, 3, none⟩ = some (.slice q3 E.pl.length t3) := by rw [cell_of b4]; rfl
    clear h4
    refine bodyPost_ret (v := .agg #[.slice (some ⟨g, 0, none⟩) E.va.length t0, .slice (some ⟨G, 0, none⟩) E.fi.length t1, .slice q2 E.me.length t2, .slice q3 E.pl.length t3]) (by simp [results, Try.results85, go_sem, p0, p1, p2, p3]) rfl ?_
    rw [show En.sw E k b = ⟨E.va.set k b, E.fi.set k (List.replicate l.length 0), E.me, E.pl⟩ by unfold En.sw; rw [En.rowAt_in HFS.out]]
    exact env_ret (Ext.mod GW.out m4 (fun k hk => by subst hk; omega)) ((H6.out.box m4 HR6.out).base (by omega))
  · have hV12 : True := trivial
    have hV0 : OwnE B1 (w1.setCell ⟨g, k, none⟩ (.bool b)) ⟨.slice (some ⟨g, 0, none⟩) E.va.length t0, .slice q1 E.fi.length t1, .slice q2 E.me.length t2, .slice q3 E.pl.length t3⟩ vs ⟨E.va.set k b, E.fi, E.me, E.pl⟩ := O1.out.setVa rfl k b
    have szV : (w1.setCell ⟨g, k, none⟩ (.bool b)).heap.size = w1.heap.size := by simp [World.setCell]
    have hrb : (w1.setCell ⟨g, k, none⟩ (.bool b)).heap[W.heap.size + 1]? = some (.cells #[.slice none 0 0, .slice none 0 0, .slice none 0 0, .slice none 0 0] 65) := heap_set_ne (p := ⟨g, k, none⟩) (alwB BR.out w1) (by show W.heap.size + 1 ≠ g; omega)
    have hob : ((w1.setCell ⟨g, k, none⟩ (.bool b)).alloc (.cells #[.slice (some ⟨g, 0, none⟩) E.va.length t0, .slice q1 E.fi.length t1, .slice q2 E.me.length t2, .slice q3 E.pl.length t3] 65)).heap[w1.heap.size]? = some (.cells #[.slice (some ⟨g, 0, none⟩) E.va.length t0, .slice q1 E.fi.length t1, .slice q2 E.me.length t2, .slice q3 E.pl.length t3] 65) := by have h := alloc_heap (w1.setCell ⟨g, k, none⟩ (.bool b)) (.cells #[.slice (some ⟨g, 0, none⟩) E.va.length t0, .slice q1 E.fi.length t1, .slice q2 E.me.length t2, .slice q3 E.pl.length t3] 65); rw [szV] at h; exact h
    have HV0 := Lib.hid hV0
    have HRB := Lib.hid hrb
    have HOB := Lib.hid hob
    have SZV := Lib.hid szV
    have xV : Ext W ((w1.setCell ⟨g, k, none⟩ (.bool b)).alloc (.cells #[.slice (some ⟨g, 0, none⟩) E.va.length t0, .slice q1 E.fi.length t1, .slice q2 E.me.length t2, .slice q3 E.pl.length t3] 65)) := (Ext.setCell (grows (a := W) (b := w1)) (by show W.heap.size ≤ g; omega) _).alloc _
    have XV := Lib.hid xV
    have c0 := alw (show ((w1.setCell ⟨g, k, none⟩ (.bool b)).alloc (.cells #[.slice (some ⟨g, 0, none⟩) E.va.length t0, .slice q1 E.fi.length t1, .slice q2 E.me.length t2, .slice q3 E.pl.length t3] 65)).cell? ⟨w1.heap.size, 0, none⟩ = some (.slice (some ⟨g, 0, none⟩) E.va.length t0) by rw [cell_of hob]; rfl)
    have n0 := alw (show (w1.setCell ⟨g, k, none⟩ (.bool b)).cell? ⟨W.heap.size + 1, 0, none⟩ = some (.slice none 0 0) by rw [cell_of hrb]; rfl)
    have u0 := alwF (o := 0) hrb
    have c1 := alw (show ((w1.setCell ⟨g, k, none⟩ (.bool b)).alloc (.cells #[.slice (some ⟨g, 0, none⟩) E.va.length t0, .slice q1 E.fi.length t1, .slice q2 E.me.length t2, .slice q3 E.pl.length t3] 65)).cell? ⟨w1.heap.size, 1, none⟩ = some (.slice q1 E.fi.length t1) by rw [cell_of hob]; rfl)
    have n1 := alw (show (w1.setCell ⟨g, k, none⟩ (.bool b)).cell? ⟨W.heap.size + 1, 1, none⟩ = some (.slice none 0 0) by rw [cell_of hrb]; rfl)
    have u1 := alwF (o := 1) hrb
    have c2 := alw (show ((w1.setCell ⟨g, k, none⟩ (.bool b)).alloc (.cells #[.slice (some ⟨g, 0, none⟩) E.va.length t0, .slice q1 E.fi.length t1, .slice q2 E.me.length t2, .slice q3 E.pl.length t3] 65)).cell? ⟨w1.heap.size, 2, none⟩ = some (.slice q2 E.me.length t2) by rw [cell_of hob]; rfl)
    have n2 := alw (show (w1.setCell ⟨g, k, none⟩ (.bool b)).cell? ⟨W.heap.size + 1, 2, none⟩ = some (.slice none 0 0) by rw [cell_of hrb]; rfl)
    have u2 := alwF (o := 2) hrb
    have c3 := alw (show ((w1.setCell ⟨g, k, none⟩ (.bool b)).alloc (.cells #[.slice (some ⟨g, 0, none⟩) E.va.length t0, .slice q1 E.fi.length t1, .slice q2 E.me.length t2, .slice q3 E.pl.length t3] 65)).cell? ⟨w1.heap.size, 3, none⟩ = some (.slice q3 E.pl.length t3) by rw [cell_of hob]; rfl)
    have n3 := alw (show (w1.setCell ⟨g, k, none⟩ (.bool b)).cell? ⟨W.heap.size + 1, 3, none⟩ = some (.slice none 0 0) by rw [cell_of hrb]; rfl)
    have u3 := alwF (o := 3) hrb
    have HRV : Hid (((w1.setCell ⟨g, k, none⟩ (.bool b)).alloc (.cells #[.slice (some ⟨g, 0, none⟩) E.va.length t0, .slice q1 E.fi.length t1, .slice q2 E.me.length t2, .slice q3 E.pl.length t3] 65)).heap[W.heap.size + 1]? = some (.cells #[.slice none 0 0, .slice none 0 0, .slice none 0 0, .slice none 0 0] 65)) := Lib.hid (((Ext.refl _).alloc _).heap hrb)
    clear hV0 hob hrb xV szV hV12
    go_wp2_with fail
    obtain ⟨w4, h4⟩ : ∃ w4, w4 = ((((((w1.setCell ⟨g, k, none⟩ (.bool b)).alloc (.cells #[.slice (some ⟨g, 0, none⟩) E.va.length t0, .slice q1 E.fi.length t1, .slice q2 E.me.length t2, .slice q3 E.pl.length t3] 65)).setCell ⟨W.heap.size + 1, 0, none⟩ (.slice (some ⟨g, 0, none⟩) E.va.length t0)).setCell ⟨W.heap.size + 1, 1, none⟩ (.slice q1 E.fi.length t1)).setCell ⟨W.heap.size + 1, 2, none⟩ (.slice q2 E.me.length t2)).setCell ⟨W.heap.size + 1, 3, none⟩ (.slice q3 E.pl.length t3)) := ⟨_, rfl⟩
    rw [← h4]
    obtain ⟨m4, b4⟩ := tower4 (.slice (some ⟨g, 0, none⟩) E.va.length t0) (.slice q1 E.fi.length t1) (.slice q2 E.me.length t2) (.slice q3 E.pl.length t3) HRV.out
    rw [← h4] at m4 b4
    have p0 : w4.cell? ⟨W.heap.size + 1, 0, none⟩ = some (.slice (some ⟨g, 0, none⟩) E.va.length t0) := by rw [cell_of b4]; rfl
    have p1 : w4.cell? ⟨W.heap.size + 1, 1, none⟩ = some (.slice q1 E.fi.length t1) := by rw [cell_of b4]; rfl
    have p2 : w4.cell? ⟨W.heap.size + 1, 2, none⟩ = some (.slice q2 E.me.length t2) := by rw [cell_of b4]; rfl
    have p3 : w4.cell? ⟨W.heap.size + 1, 3, none⟩ = some (.slice q3 E.pl.length t3) := by rw [cell_of b4]; rfl
    clear h4
    refine bodyPost_ret (v := .agg #[.slice (some ⟨g, 0, none⟩) E.va.length t0, .slice q1 E.fi.length t1, .slice q2 E.me.length t2, .slice q3 E.pl.length t3]) (by simp [results, Try.results85, go_sem, p0, p1, p2, p3]) rfl ?_
    rw [show En.sw E k b = ⟨E.va.set k b, E.fi, E.me, E.pl⟩ by unfold En.sw; rw [List.set_eq_of_length_le (l := E.fi) (by omega)]]
    exact env_ret (Ext.mod XV.out m4 (fun k hk => by subst hk; omega)) (((HV0.out.ext ((Ext.refl _).alloc _)).box m4 HRV.out).base (by omega))
set_option maxRecDepth 8000 in
set_option maxHeartbeats 4000000 in
theorem refadd_any {W : World} {p : Pg.PV} {P : Pg.Prog} {e : Pg.EV} {E : Pg.Env} (hp : Pg.IsP W p P) (he : Pg.IsE W e E) (hc : En.CapE E) (h : Int) : Calls Try.prog 46 #[p.val, e.val, .int .i64 h] W (EnvP W (En.switch P E h true true)) := by
  have hcl := fun w (hx : Ext W w) => refclone_any (he.ext hx) hc
  have hvd := fun (k : Nat) (hk : k < E.va.length) w (hx : Ext W w) => validity_any (he.ext hx) hc k hk true
  obtain ⟨s, a1, a2, a3, a4, a5, a6, a7, a8, m1, m2, n3, m3, n4, m4, n5, m5, n6, m6, n7, m7, m8, hf⟩ := hp.form
  obtain ⟨rfl, hhs, hmd, _, hl1, hl2, _⟩ := hf
  obtain ⟨b0, b1, b2, b3, d0, d1, d2, d3, hg⟩ := he.form
  obtain ⟨rfl, hva, hfi, hme, hpl, g0, g1, g2, g3⟩ := hg
  dsimp only [Pg.PV.val, Pg.EV.val] at hcl hvd ⊢
  have z1 := hl1.1
  have z2 := hl1.2
  have bx := alloc_heap W (.cells #[.string s, .slice a1 P.hs.length m1, .slice a2 P.md.length m2, .slice a3 n3 m3, .slice a4 n4 m4, .slice a5 n5 m5, .slice a6 n6 m6, .slice a7 n7 m7, .slice a8 P.dp.length m8] 61)
  have k0 := alw (cell_of (o := 0) bx)
  have k1 := alw (cell_of (o := 1) bx)
  have k2 := alw (cell_of (o := 2) bx)
  have k3 := alw (cell_of (o := 3) bx)
  have k4 := alw (cell_of (o := 4) bx)
  have k5 := alw (cell_of (o := 5) bx)
  have k6 := alw (cell_of (o := 6) bx)
  have k7 := alw (cell_of (o := 7) bx)
  have k8 := alw (cell_of (o := 8) bx)
  clear bx
  have bx := alloc_heap (W.alloc (.cells #[.string s, .slice a1 P.hs.length m1, .slice a2 P.md.length m2, .slice a3 n3 m3, .slice a4 n4 m4, .slice a5 n5 m5, .slice a6 n6 m6, .slice a7 n7 m7, .slice a8 P.dp.length m8] 61)) (.cells #[.slice b0 E.va.length d0, .slice b1 E.fi.length d1, .slice b2 E.me.length d2, .slice b3 E.pl.length d3] 65)
  rw [World.size_alloc] at bx
  have em0 := alw (cell_of (o := 0) bx)
  have em1 := alw (cell_of (o := 1) bx)
  have em2 := alw (cell_of (o := 2) bx)
  have em3 := alw (cell_of (o := 3) bx)
  clear bx
  have bx := alloc_heap ((W.alloc (.cells #[.string s, .slice a1 P.hs.length m1, .slice a2 P.md.length m2, .slice a3 n3 m3, .slice a4 n4 m4, .slice a5 n5 m5, .slice a6 n6 m6, .slice a7 n7 m7, .slice a8 P.dp.length m8] 61)).alloc (.cells #[.slice b0 E.va.length d0, .slice b1 E.fi.length d1, .slice b2 E.me.length d2, .slice b3 E.pl.length d3] 65)) (.cells #[.slice none 0 0, .slice none 0 0, .slice none 0 0, .slice none 0 0] 65)
  rw [World.size_alloc, World.size_alloc] at bx
  have r0 := alw (cell_of (o := 0) bx)
  have r1 := alw (cell_of (o := 1) bx)
  have r2 := alw (cell_of (o := 2) bx)
  have r3 := alw (cell_of (o := 3) bx)
  have er0 := alwF (o := 0) bx
  have er1 := alwF (o := 1) bx
  have er2 := alwF (o := 2) bx
  have er3 := alwF (o := 3) bx
  have BR := Lib.hid bx
  clear bx
  obtain ⟨E2, hE2⟩ : ∃ E2, E2 = E := ⟨_, rfl⟩
  by_cases hh : 0 ≤ h ∧ h < P.hs.length
  · obtain ⟨h0, h1⟩ := hh
    obtain ⟨k, rfl⟩ := Int.eq_ofNat_of_zero_le h0
    by_cases hkv : k < E.va.length
    · obtain ⟨x, hxk⟩ : ∃ x, E.va[k]? = some x := ⟨_, List.getElem?_eq_getElem hkv⟩
      obtain ⟨b', o', e1, n1⟩ := bs_at hva (by omega)
      subst e1
      have q1 := n1 k x hxk
      have HVX := Lib.hid (En.vaAt_in hxk)
      have i1 : En.inB P.hs.length k = true := En.inB_at (by omega)
      have i2 : En.inB E.va.length k = true := En.inB_at hkv
      cases x with
      | true =>
        have HS : Hid (En.switch P E k true true = E2) := Lib.hid (by rw [hE2]; exact En.sw_no (by unfold En.swB; rw [i1, i2, HVX.out]; rfl))
        have HCL : Hid (∀ w, Ext W w → Calls Try.prog 53 #[.agg #[.slice (some ⟨b', o', none⟩) E.va.length d0, .slice b1 E.fi.length d1, .slice b2 E.me.length d2, .slice b3 E.pl.length d3]] w (EnvP w E2)) := Lib.hid (fun w hx => by rw [hE2]; exact hcl w hx)
        clear hp he hc hhs hmd hva hfi hme hpl hcl hvd hxk n1 i1 i2 HVX
        clear hE2
        go_enter Try.func46, Try.ntmps46
        go_wp2_with fail
        refine (HCL.out _ grows).mono ?_
        rintro e w1 ⟨ev, vs, rfl, x1, o1⟩
        have s1 := Step.mk x1
        obtain ⟨q0, q1, q2, q3, t0, t1, t2, t3, hg⟩ := o1.isE.form
        obtain ⟨rfl, jva, jfi, jme, jpl, l0, l1, l2, l3⟩ := hg
        dsimp only [Pg.EV.val]
        have O1 := Lib.hid o1
        clear o1 jva jfi jme jpl x1
        go_wp2_with fail
        obtain ⟨w4, h4⟩ : ∃ w4, w4 = ((((w1.setCell ⟨W.heap.size + 1 + 1, 0, none⟩ (.slice q0 E2.va.length t0)).setCell ⟨W.heap.size + 1 + 1, 1, none⟩ (.slice q1 E2.fi.length t1)).setCell ⟨W.heap.size + 1 + 1, 2, none⟩ (.slice q2 E2.me.length t2)).setCell ⟨W.heap.size + 1 + 1, 3, none⟩ (.slice q3 E2.pl.length t3)) := ⟨_, rfl⟩
        rw [← h4]
        obtain ⟨m4, b4⟩ := tower4 (.slice q0 E2.va.length t0) (.slice q1 E2.fi.length t1) (.slice q2 E2.me.length t2) (.slice q3 E2.pl.length t3) (alwB BR.out w1)
        rw [← h4] at m4 b4
        have y0 : w4.cell? ⟨W.heap.size + 1 + 1, 0, none⟩ = some (.slice q0 E2.va.length t0) := by rw [cell_of b4]; rfl
        have y1 : w4.cell? ⟨W.heap.size + 1 + 1, 1, none⟩ = some (.slice q1 E2.fi.length t1) := by rw [cell_of b4]; rfl
        have y2 : w4.cell? ⟨W.heap.size + 1 + 1, 2, none⟩ = some (.slice q2 E2.me.length t2) := by rw [cell_of b4]; rfl
        have y3 : w4.cell? ⟨W.heap.size + 1 + 1, 3, none⟩ = some (.slice q3 E2.pl.length t3) := by rw [cell_of b4]; rfl
        clear h4
        refine bodyPost_ret (v := .agg #[.slice q0 E2.va.length t0, .slice q1 E2.fi.length t1, .slice q2 E2.me.length t2, .slice q3 E2.pl.length t3]) (by simp [results, Try.results46, go_sem, y0, y1, y2, y3]) rfl ?_
        have gw : Ext W w1 := grows
        rw [HS.out]
        exact env_ret (Ext.mod gw m4 (fun k hk => by subst hk; omega)) ((O1.out.box m4 (alwB BR.out w1)).base (by simp only [World.size_alloc]; omega))
      | false =>
        have HS : Hid (En.switch P E k true true = En.sw E k true) := Lib.hid (En.sw_yes (by unfold En.swB; rw [i1, i2, HVX.out]; rfl))
        clear hE2 E2
        obtain ⟨E2, hE2⟩ : ∃ E2, E2 = En.sw E k true := ⟨_, rfl⟩
        have HCL : Hid (∀ w, Ext W w → Calls Try.prog 85 #[.agg #[.slice (some ⟨b', o', none⟩) E.va.length d0, .slice b1 E.fi.length d1, .slice b2 E.me.length d2, .slice b3 E.pl.length d3], .int .i64 k, .bool true] w (EnvP w E2)) := Lib.hid (fun w hx => by rw [hE2]; exact hvd k hkv w hx)
        rw [← hE2] at HS
        clear hp he hc hhs hmd hva hfi hme hpl hcl hvd hxk n1 i1 i2 HVX hE2
        go_enter Try.func46, Try.ntmps46
        go_wp2_with fail
        refine (HCL.out _ grows).mono ?_
        rintro e w1 ⟨ev, vs, rfl, x1, o1⟩
        have s1 := Step.mk x1
        obtain ⟨q0, q1, q2, q3, t0, t1, t2, t3, hg⟩ := o1.isE.form
        obtain ⟨rfl, jva, jfi, jme, jpl, l0, l1, l2, l3⟩ := hg
        dsimp only [Pg.EV.val]
        have O1 := Lib.hid o1
        clear o1 jva jfi jme jpl x1
        go_wp2_with fail
        obtain ⟨w4, h4⟩ : ∃ w4, w4 = ((((w1.setCell ⟨W.heap.size + 1 + 1, 0, none⟩ (.slice q0 E2.va.length t0)).setCell ⟨W.heap.size + 1 + 1, 1, none⟩ (.slice q1 E2.fi.length t1)).setCell ⟨W.heap.size + 1 + 1, 2, none⟩ (.slice q2 E2.me.length t2)).setCell ⟨W.heap.size + 1 + 1, 3, none⟩ (.slice q3 E2.pl.length t3)) := ⟨_, rfl⟩
        rw [← h4]
        obtain ⟨m4, b4⟩ := tower4 (.slice q0 E2.va.length t0) (.slice q1 E2.fi.length t1) (.slice q2 E2.me.length t2) (.slice q3 E2.pl.length t3) (alwB BR.out w1)
        rw [← h4] at m4 b4
        have y0 : w4.cell? ⟨W.heap.size + 1 + 1, 0, none⟩ = some (.slice q0 E2.va.length t0) := by rw [cell_of b4]; rfl
        have y1 : w4.cell? ⟨W.heap.size + 1 + 1, 1, none⟩ = some (.slice q1 E2.fi.length t1) := by rw [cell_of b4]; rfl
        have y2 : w4.cell? ⟨W.heap.size + 1 + 1, 2, none⟩ = some (.slice q2 E2.me.length t2) := by rw [cell_of b4]; rfl
        have y3 : w4.cell? ⟨W.heap.size + 1 + 1, 3, none⟩ = some (.slice q3 E2.pl.length t3) := by rw [cell_of b4]; rfl
        clear h4
        refine bodyPost_ret (v := .agg #[.slice q0 E2.va.length t0, .slice q1 E2.fi.length t1, .slice q2 E2.me.length t2, .slice q3 E2.pl.length t3]) (by simp [results, Try.results46, go_sem, y0, y1, y2, y3]) rfl ?_
        have gw : Ext W w1 := grows
        rw [HS.out]
        exact env_ret (Ext.mod gw m4 (fun k hk => by subst hk; omega)) ((O1.out.box m4 (alwB BR.out w1)).base (by simp only [World.size_alloc]; omega))
    · have HS : Hid (En.switch P E k true true = E2) := Lib.hid (by rw [hE2]; exact En.sw_no (by unfold En.swB; rw [En.inB_hi (n := E.va.length) (by omega)]; simp))
      have HCL : Hid (∀ w, Ext W w → Calls Try.prog 53 #[.agg #[.slice b0 E.va.length d0, .slice b1 E.fi.length d1, .slice b2 E.me.length d2, .slice b3 E.pl.length d3]] w (EnvP w E2)) := Lib.hid (fun w hx => by rw [hE2]; exact hcl w hx)
      have hkv2 : (E.va.length : Int) ≤ (k : Int) := by omega
      clear hp he hc hhs hmd hva hfi hme hpl hcl hvd hkv
      clear hE2
      go_enter Try.func46, Try.ntmps46
      go_wp2_with fail
      refine (HCL.out _ grows).mono ?_
      rintro e w1 ⟨ev, vs, rfl, x1, o1⟩
      have s1 := Step.mk x1
      obtain ⟨q0, q1, q2, q3, t0, t1, t2, t3, hg⟩ := o1.isE.form
      obtain ⟨rfl, jva, jfi, jme, jpl, l0, l1, l2, l3⟩ := hg
      dsimp only [Pg.EV.val]
      have O1 := Lib.hid o1
      clear o1 jva jfi jme jpl x1
      go_wp2_with fail
      obtain ⟨w4, h4⟩ : ∃ w4, w4 = ((((w1.setCell ⟨W.heap.size + 1 + 1, 0, none⟩ (.slice q0 E2.va.length t0)).setCell ⟨W.heap.size + 1 + 1, 1, none⟩ (.slice q1 E2.fi.length t1)).setCell ⟨W.heap.size + 1 + 1, 2, none⟩ (.slice q2 E2.me.length t2)).setCell ⟨W.heap.size + 1 + 1, 3, none⟩ (.slice q3 E2.pl.length t3)) := ⟨_, rfl⟩
      rw [← h4]
      obtain ⟨m4, b4⟩ := tower4 (.slice q0 E2.va.length t0) (.slice q1 E2.fi.length t1) (.slice q2 E2.me.length t2) (.slice q3 E2.pl.length t3) (alwB BR.out w1)
      rw [← h4] at m4 b4
      have y0 : w4.cell? ⟨W.heap.size + 1 + 1, 0, none⟩ = some (.slice q0 E2.va.length t0) := by rw [cell_of b4]; rfl
      have y1 : w4.cell? ⟨W.heap.size + 1 + 1, 1, none⟩ = some (.slice q1 E2.fi.length t1) := by rw [cell_of b4]; rfl
      have y2 : w4.cell? ⟨W.heap.size + 1 + 1, 2, none⟩ = some (.slice q2 E2.me.length t2) := by rw [cell_of b4]; rfl
      have y3 : w4.cell? ⟨W.heap.size + 1 + 1, 3, none⟩ = some (.slice q3 E2.pl.length t3) := by rw [cell_of b4]; rfl
      clear h4
      refine bodyPost_ret (v := .agg #[.slice q0 E2.va.length t0, .slice q1 E2.fi.length t1, .slice q2 E2.me.length t2, .slice q3 E2.pl.length t3]) (by simp [results, Try.results46, go_sem, y0, y1, y2, y3]) rfl ?_
      have gw : Ext W w1 := grows
      rw [HS.out]
      exact env_ret (Ext.mod gw m4 (fun k hk => by subst hk; omega)) ((O1.out.box m4 (alwB BR.out w1)).base (by simp only [World.size_alloc]; omega))
  · have HS : Hid (En.switch P E h true true = E2) := Lib.hid (by
      rw [hE2]; refine En.sw_no ?_
      unfold En.swB
      rw [show En.inB P.hs.length h = false by rcases (show h < 0 ∨ (P.hs.length : Int) ≤ h by omega) with q | q; (· exact En.inB_lo q); (· exact En.inB_hi q)]; rfl)
    have HCL : Hid (∀ w, Ext W w → Calls Try.prog 53 #[.agg #[.slice b0 E.va.length d0, .slice b1 E.fi.length d1, .slice b2 E.me.length d2, .slice b3 E.pl.length d3]] w (EnvP w E2)) := Lib.hid (fun w hx => by rw [hE2]; exact hcl w hx)
    clear hp he hc hhs hmd hva hfi hme hpl hcl hvd
    clear hE2
    rcases (show h < 0 ∨ (0 ≤ h ∧ (P.hs.length : Int) ≤ h) by omega) with h0 | ⟨h0, h1⟩
    all_goals
      clear hh
      go_enter Try.func46, Try.ntmps46
      go_wp2_with fail
      refine (HCL.out _ grows).mono ?_
      rintro e w1 ⟨ev, vs, rfl, x1, o1⟩
      have s1 := Step.mk x1
      obtain ⟨q0, q1, q2, q3, t0, t1, t2, t3, hg⟩ := o1.isE.form
      obtain ⟨rfl, jva, jfi, jme, jpl, l0, l1, l2, l3⟩ := hg
      dsimp only [Pg.EV.val]
      have O1 := Lib.hid o1
      clear o1 jva jfi jme jpl x1
      go_wp2_with fail
      obtain ⟨w4, h4⟩ : ∃ w4, w4 = ((((w1.setCell ⟨W.heap.size + 1 + 1, 0, none⟩ (.slice q0 E2.va.length t0)).setCell ⟨W.heap.size + 1 + 1, 1, none⟩ (.slice q1 E2.fi.length t1)).setCell ⟨W.heap.size + 1 + 1, 2, none⟩ (.slice q2 E2.me.length t2)).setCell ⟨W.heap.size + 1 + 1, 3, none⟩ (.slice q3 E2.pl.length t3)) := ⟨_, rfl⟩
      rw [← h4]
      obtain ⟨m4, b4⟩ := tower4 (.slice q0 E2.va.length t0) (.slice q1 E2.fi.length t1) (.slice q2 E2.me.length t2) (.slice q3 E2.pl.length t3) (alwB BR.out w1)
      rw [← h4] at m4 b4
      have y0 : w4.cell? ⟨W.heap.size + 1 + 1, 0, none⟩ = some (.slice q0 E2.va.length t0) := by rw [cell_of b4]; rfl
      have y1 : w4.cell? ⟨W.heap.size + 1 + 1, 1, none⟩ = some (.slice q1 E2.fi.length t1) := by rw [cell_of b4]; rfl
      have y2 : w4.cell? ⟨W.heap.size + 1 + 1, 2, none⟩ = some (.slice q2 E2.me.length t2) := by rw [cell_of b4]; rfl
      have y3 : w4.cell? ⟨W.heap.size + 1 + 1, 3, none⟩ = some (.slice q3 E2.pl.length t3) := by rw [cell_of b4]; rfl
      clear h4
      refine bodyPost_ret (v := .agg #[.slice q0 E2.va.length t0, .slice q1 E2.fi.length t1, .slice q2 E2.me.length t2, .slice q3 E2.pl.length t3]) (by simp [results, Try.results46, go_sem, y0, y1, y2, y3]) rfl ?_
      have gw : Ext W w1 := grows
      rw [HS.out]
      exact env_ret (Ext.mod gw m4 (fun k hk => by subst hk; omega)) ((O1.out.box m4 (alwB BR.out w1)).base (by simp only [World.size_alloc]; omega))
set_option maxRecDepth 8000 in
set_option maxHeartbeats 4000000 in
theorem refrem_any {W : World} {p : Pg.PV} {P : Pg.Prog} {e : Pg.EV} {E : Pg.Env} (hp : Pg.IsP W p P) (he : Pg.IsE W e E) (hc : En.CapE E) (h : Int) : Calls Try.prog 48 #[p.val, e.val, .int .i64 h] W (EnvP W (En.switch P E h false false)) := by
  have hcl := fun w (hx : Ext W w) => refclone_any (he.ext hx) hc
  have hvd := fun (k : Nat) (hk : k < E.va.length) w (hx : Ext W w) => validity_any (he.ext hx) hc k hk false
  obtain ⟨s, a1, a2, a3, a4, a5, a6, a7, a8, m1, m2, n3, m3, n4, m4, n5, m5, n6, m6, n7, m7, m8, hf⟩ := hp.form
  obtain ⟨rfl, hhs, hmd, _, hl1, hl2, _⟩ := hf
  obtain ⟨b0, b1, b2, b3, d0, d1, d2, d3, hg⟩ := he.form
  obtain ⟨rfl, hva, hfi, hme, hpl, g0, g1, g2, g3⟩ := hg
  dsimp only [Pg.PV.val, Pg.EV.val] at hcl hvd ⊢
  have z1 := hl1.1
  have z2 := hl1.2
  have bx := alloc_heap W (.cells #[.string s, .slice a1 P.hs.length m1, .slice a2 P.md.length m2, .slice a3 n3 m3, .slice a4 n4 m4, .slice a5 n5 m5, .slice a6 n6 m6, .slice a7 n7 m7, .slice a8 P.dp.length m8] 61)
  have k0 := alw (cell_of (o := 0) bx)
  have k1 := alw (cell_of (o := 1) bx)
  have k2 := alw (cell_of (o := 2) bx)
  have k3 := alw (cell_of (o := 3) bx)
  have k4 := alw (cell_of (o := 4) bx)
  have k5 := alw (cell_of (o := 5) bx)
  have k6 := alw (cell_of (o := 6) bx)
  have k7 := alw (cell_of (o := 7) bx)
  have k8 := alw (cell_of (o := 8) bx)
  clear bx
  have bx := alloc_heap (W.alloc (.cells #[.string s, .slice a1 P.hs.length m1, .slice a2 P.md.length m2, .slice a3 n3 m3, .slice a4 n4 m4, .slice a5 n5 m5, .slice a6 n6 m6, .slice a7 n7 m7, .slice a8 P.dp.length m8] 61)) (.cells #[.slice b0 E.va.length d0, .slice b1 E.fi.length d1, .slice b2 E.me.length d2, .slice b3 E.pl.length d3] 65)
  rw [World.size_alloc] at bx
  have em0 := alw (cell_of (o := 0) bx)
  have em1 := alw (cell_of (o := 1) bx)
  have em2 := alw (cell_of (o := 2) bx)
  have em3 := alw (cell_of (o := 3) bx)
  clear bx
  have bx := alloc_heap ((W.alloc (.cells #[.string s, .slice a1 P.hs.length m1, .slice a2 P.md.length m2, .slice a3 n3 m3, .slice a4 n4 m4, .slice a5 n5 m5, .slice a6 n6 m6, .slice a7 n7 m7, .slice a8 P.dp.length m8] 61)).alloc (.cells #[.slice b0 E.va.length d0, .slice b1 E.fi.length d1, .slice b2 E.me.length d2, .slice b3 E.pl.length d3] 65)) (.cells #[.slice none 0 0, .slice none 0 0, .slice none 0 0, .slice none 0 0] 65)
  rw [World.size_alloc, World.size_alloc] at bx
  have r0 := alw (cell_of (o := 0) bx)
  have r1 := alw (cell_of (o := 1) bx)
  have r2 := alw (cell_of (o := 2) bx)
  have r3 := alw (cell_of (o := 3) bx)
  have er0 := alwF (o := 0) bx
  have er1 := alwF (o := 1) bx
  have er2 := alwF (o := 2) bx
  have er3 := alwF (o := 3) bx
  have BR := Lib.hid bx
  clear bx
  obtain ⟨E2, hE2⟩ : ∃ E2, E2 = E := ⟨_, rfl⟩
  by_cases hh : 0 ≤ h ∧ h < P.hs.length
  · obtain ⟨h0, h1⟩ := hh
    obtain ⟨k, rfl⟩ := Int.eq_ofNat_of_zero_le h0
    by_cases hkv : k < E.va.length
    · obtain ⟨x, hxk⟩ : ∃ x, E.va[k]? = some x := ⟨_, List.getElem?_eq_getElem hkv⟩
      obtain ⟨b', o', e1, n1⟩ := bs_at hva (by omega)
      subst e1
      have q1 := n1 k x hxk
      have HVX := Lib.hid (En.vaAt_in hxk)
      have i1 : En.inB P.hs.length k = true := En.inB_at (by omega)
      have i2 : En.inB E.va.length k = true := En.inB_at hkv
      have HS : Hid (En.switch P E k false false = En.sw E k false) := Lib.hid (En.sw_yes (by unfold En.swB; rw [i1, i2]; rfl))
      clear hE2 E2
      obtain ⟨E2, hE2⟩ : ∃ E2, E2 = En.sw E k false := ⟨_, rfl⟩
      have HCL : Hid (∀ w, Ext W w → Calls Try.prog 85 #[.agg #[.slice (some ⟨b', o', none⟩) E.va.length d0, .slice b1 E.fi.length d1, .slice b2 E.me.length d2, .slice b3 E.pl.length d3], .int .i64 k, .bool false] w (EnvP w E2)) := Lib.hid (fun w hx => by rw [hE2]; exact hvd k hkv w hx)
      rw [← hE2] at HS
      clear hp he hc hhs hmd hva hfi hme hpl hcl hvd hxk n1 i1 i2 HVX hE2
      go_enter Try.func48, Try.ntmps48
      go_wp2_with fail
      refine (HCL.out _ grows).mono ?_
      rintro e w1 ⟨ev, vs, rfl, x1, o1⟩
      have s1 := Step.mk x1
      obtain ⟨q0, q1, q2, q3, t0, t1, t2, t3, hg⟩ := o1.isE.form
      obtain ⟨rfl, jva, jfi, jme, jpl, l0, l1, l2, l3⟩ := hg
      dsimp only [Pg.EV.val]
      have O1 := Lib.hid o1
      clear o1 jva jfi jme jpl x1
      go_wp2_with fail
      obtain ⟨w4, h4⟩ : ∃ w4, w4 = ((((w1.setCell ⟨W.heap.size + 1 + 1, 0, none⟩ (.slice q0 E2.va.length t0)).setCell ⟨W.heap.size + 1 + 1, 1, none⟩ (.slice q1 E2.fi.length t1)).setCell ⟨W.heap.size + 1 + 1, 2, none⟩ (.slice q2 E2.me.length t2)).setCell ⟨W.heap.size + 1 + 1, 3, none⟩ (.slice q3 E2.pl.length t3)) := ⟨_, rfl⟩
      rw [← h4]
      obtain ⟨m4, b4⟩ := tower4 (.slice q0 E2.va.length t0) (.slice q1 E2.fi.length t1) (.slice q2 E2.me.length t2) (.slice q3 E2.pl.length t3) (alwB BR.out w1)
      rw [← h4] at m4 b4
      have y0 : w4.cell? ⟨W.heap.size + 1 + 1, 0, none⟩ = some (.slice q0 E2.va.length t0) := by rw [cell_of b4]; rfl
      have y1 : w4.cell? ⟨W.heap.size + 1 + 1, 1, none⟩ = some (.slice q1 E2.fi.length t1) := by rw [cell_of b4]; rfl
      have y2 : w4.cell? ⟨W.heap.size + 1 + 1, 2, none⟩ = some (.slice q2 E2.me.length t2) := by rw [cell_of b4]; rfl
      have y3 : w4.cell? ⟨W.heap.size + 1 + 1, 3, none⟩ = some (.slice q3 E2.pl.length t3) := by rw [cell_of b4]; rfl
      clear h4
      refine bodyPost_ret (v := .agg #[.slice q0 E2.va.length t0, .slice q1 E2.fi.length t1, .slice q2 E2.me.length t2, .slice q3 E2.pl.length t3]) (by simp [results, Try.results48, go_sem, y0, y1, y2, y3]) rfl ?_
      have gw : Ext W w1 := grows
      rw [HS.out]
      exact env_ret (Ext.mod gw m4 (fun k hk => by subst hk; omega)) ((O1.out.box m4 (alwB BR.out w1)).base (by simp only [World.size_alloc]; omega))
    · have HS : Hid (En.switch P E k false false = E2) := Lib.hid (by rw [hE2]; exact En.sw_no (by unfold En.swB; rw [En.inB_hi (n := E.va.length) (by omega)]; simp))
      have HCL : Hid (∀ w, Ext W w → Calls Try.prog 53 #[.agg #[.slice b0 E.va.length d0, .slice b1 E.fi.length d1, .slice b2 E.me.length d2, .slice b3 E.pl.length d3]] w (EnvP w E2)) := Lib.hid (fun w hx => by rw [hE2]; exact hcl w hx)
      have hkv2 : (E.va.length : Int) ≤ (k : Int) := by omega
      clear hp he hc hhs hmd hva hfi hme hpl hcl hvd hkv
      clear hE2
      go_enter Try.func48, Try.ntmps48
      go_wp2_with fail
      refine (HCL.out _ grows).mono ?_
      rintro e w1 ⟨ev, vs, rfl, x1, o1⟩
      have s1 := Step.mk x1
      obtain ⟨q0, q1, q2, q3, t0, t1, t2, t3, hg⟩ := o1.isE.form
      obtain ⟨rfl, jva, jfi, jme, jpl, l0, l1, l2, l3⟩ := hg
      dsimp only [Pg.EV.val]
      have O1 := Lib.hid o1
      clear o1 jva jfi jme jpl x1
      go_wp2_with fail
      obtain ⟨w4, h4⟩ : ∃ w4, w4 = ((((w1.setCell ⟨W.heap.size + 1 + 1, 0, none⟩ (.slice q0 E2.va.length t0)).setCell ⟨W.heap.size + 1 + 1, 1, none⟩ (.slice q1 E2.fi.length t1)).setCell ⟨W.heap.size + 1 + 1, 2, none⟩ (.slice q2 E2.me.length t2)).setCell ⟨W.heap.size + 1 + 1, 3, none⟩ (.slice q3 E2.pl.length t3)) := ⟨_, rfl⟩
      rw [← h4]
      obtain ⟨m4, b4⟩ := tower4 (.slice q0 E2.va.length t0) (.slice q1 E2.fi.length t1) (.slice q2 E2.me.length t2) (.slice q3 E2.pl.length t3) (alwB BR.out w1)
      rw [← h4] at m4 b4
      have y0 : w4.cell? ⟨W.heap.size + 1 + 1, 0, none⟩ = some (.slice q0 E2.va.length t0) := by rw [cell_of b4]; rfl
      have y1 : w4.cell? ⟨W.heap.size + 1 + 1, 1, none⟩ = some (.slice q1 E2.fi.length t1) := by rw [cell_of b4]; rfl
      have y2 : w4.cell? ⟨W.heap.size + 1 + 1, 2, none⟩ = some (.slice q2 E2.me.length t2) := by rw [cell_of b4]; rfl
      have y3 : w4.cell? ⟨W.heap.size + 1 + 1, 3, none⟩ = some (.slice q3 E2.pl.length t3) := by rw [cell_of b4]; rfl
      clear h4
      refine bodyPost_ret (v := .agg #[.slice q0 E2.va.length t0, .slice q1 E2.fi.length t1, .slice q2 E2.me.length t2, .slice q3 E2.pl.length t3]) (by simp [results, Try.results48, go_sem, y0, y1, y2, y3]) rfl ?_
      have gw : Ext W w1 := grows
      rw [HS.out]
      exact env_ret (Ext.mod gw m4 (fun k hk => by subst hk; omega)) ((O1.out.box m4 (alwB BR.out w1)).base (by simp only [World.size_alloc]; omega))
  · have HS : Hid (En.switch P E h false false = E2) := Lib.hid (by
      rw [hE2]; refine En.sw_no ?_
      unfold En.swB
      rw [show En.inB P.hs.length h = false by rcases (show h < 0 ∨ (P.hs.length : Int) ≤ h by omega) with q | q; (· exact En.inB_lo q); (· exact En.inB_hi q)]; rfl)
    have HCL : Hid (∀ w, Ext W w → Calls Try.prog 53 #[.agg #[.slice b0 E.va.length d0, .slice b1 E.fi.length d1, .slice b2 E.me.length d2, .slice b3 E.pl.length d3]] w (EnvP w E2)) := Lib.hid (fun w hx => by rw [hE2]; exact hcl w hx)
    clear hp he hc hhs hmd hva hfi hme hpl hcl hvd
    clear hE2
    rcases (show h < 0 ∨ (0 ≤ h ∧ (P.hs.length : Int) ≤ h) by omega) with h0 | ⟨h0, h1⟩
    all_goals
      clear hh
      go_enter Try.func48, Try.ntmps48
      go_wp2_with fail
      refine (HCL.out _ grows).mono ?_
      rintro e w1 ⟨ev, vs, rfl, x1, o1⟩
      have s1 := Step.mk x1
      obtain ⟨q0, q1, q2, q3, t0, t1, t2, t3, hg⟩ := o1.isE.form
      obtain ⟨rfl, jva, jfi, jme, jpl, l0, l1, l2, l3⟩ := hg
      dsimp only [Pg.EV.val]
      have O1 := Lib.hid o1
      clear o1 jva jfi jme jpl x1
      go_wp2_with fail
      obtain ⟨w4, h4⟩ : ∃ w4, w4 = ((((w1.setCell ⟨W.heap.size + 1 + 1, 0, none⟩ (.slice q0 E2.va.length t0)).setCell ⟨W.heap.size + 1 + 1, 1, none⟩ (.slice q1 E2.fi.length t1)).setCell ⟨W.heap.size + 1 + 1, 2, none⟩ (.slice q2 E2.me.length t2)).setCell ⟨W.heap.size + 1 + 1, 3, none⟩ (.slice q3 E2.pl.length t3)) := ⟨_, rfl⟩
      rw [← h4]
      obtain ⟨m4, b4⟩ := tower4 (.slice q0 E2.va.length t0) (.slice q1 E2.fi.length t1) (.slice q2 E2.me.length t2) (.slice q3 E2.pl.length t3) (alwB BR.out w1)
      rw [← h4] at m4 b4
      have y0 : w4.cell? ⟨W.heap.size + 1 + 1, 0, none⟩ = some (.slice q0 E2.va.length t0) := by rw [cell_of b4]; rfl
      have y1 : w4.cell? ⟨W.heap.size + 1 + 1, 1, none⟩ = some (.slice q1 E2.fi.length t1) := by rw [cell_of b4]; rfl
      have y2 : w4.cell? ⟨W.heap.size + 1 + 1, 2, none⟩ = some (.slice q2 E2.me.length t2) := by rw [cell_of b4]; rfl
      have y3 : w4.cell? ⟨W.heap.size + 1 + 1, 3, none⟩ = some (.slice q3 E2.pl.length t3) := by rw [cell_of b4]; rfl
      clear h4
      refine bodyPost_ret (v := .agg #[.slice q0 E2.va.length t0, .slice q1 E2.fi.length t1, .slice q2 E2.me.length t2, .slice q3 E2.pl.length t3]) (by simp [results, Try.results48, go_sem, y0, y1, y2, y3]) rfl ?_
      have gw : Ext W w1 := grows
      rw [HS.out]
      exact env_ret (Ext.mod gw m4 (fun k hk => by subst hk; omega)) ((O1.out.box m4 (alwB BR.out w1)).base (by simp only [World.size_alloc]; omega))
end Go.Proofs.Ytdgepbolfflidaa
