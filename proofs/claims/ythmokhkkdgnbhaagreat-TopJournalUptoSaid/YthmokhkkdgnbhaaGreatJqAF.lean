/- Tables: checkKeys, checkActions, Check, walked. Tables: Check, valid, Widths, Kind, Allows, walked. Tables: Kind, Allows, walked. Entries: their data; checkKey, SameKey, walked. No condition. -/
import Derived.Test.YthmokhkkdgnbhaaGreatJqAE
set_option maxRecDepth 8000
set_option maxHeartbeats 16000000
namespace Go.Proofs.YthmokhkkdgnbhaaGreat
open Go.RowKit
open Go.Maps
open Go.WideMaps
theorem keys_at {w : World} {b o n c : Nat} {l : List Tj.Key} {oa : Option Addr} (h : Tj.Keys w (.slice oa n c) l) (k : Nat) (x : Tj.Key) (hk : l[k]? = some x) (hoa : oa = some ⟨b, o, none⟩) :
 w.cell? ⟨b, o + k * 3, none⟩ = some (.int .i64 x.h) ∧ w.cell? ⟨b, o + k * 3 + 1, none⟩ = some (.int .i64 x.f) ∧ w.cell? ⟨b, o + k * 3 + 2, none⟩ = some (.int .i64 x.k) := by
 obtain ⟨b', o', e, _, h4⟩ := h.at (by have := (List.getElem?_eq_some_iff.1 hk).1; omega)
 rw [hoa] at e
 simp only [Option.some.injEq, Addr.mk.injEq, and_true] at e
 obtain ⟨rfl, rfl⟩ := e
 obtain ⟨cs, _, ⟨rfl, _⟩, hc⟩ := h4 k x hk
 exact ⟨hc 0 _ rfl, hc 1 _ rfl, hc 2 _ rfl⟩
theorem tabs_at {w : World} {b o n c : Nat} {l : List Tj.Tab} {oa : Option Addr} (h : Tj.Tabs w (.slice oa n c) l) (k : Nat) (x : Tj.Tab) (hk : l[k]? = some x) (hoa : oa = some ⟨b, o, none⟩) :
 ∃ ka kc aa ac da dc, x.nm.size ≤ maxLen ∧ (Tj.B64 x.df.a ∧ Tj.B64 x.sz) ∧ Tj.Keys w (.slice ka x.ks.length kc) x.ks ∧ Tj.Is w (.slice aa x.ac.length ac) x.ac ∧ Tj.Us w (.slice da x.df.ar.length dc) x.df.ar ∧
  w.cell? ⟨b, o + k * 6, none⟩ = some (.string x.nm) ∧ w.cell? ⟨b, o + k * 6 + 1, none⟩ = some (.slice ka x.ks.length kc) ∧ w.cell? ⟨b, o + k * 6 + 2, none⟩ = some (.slice aa x.ac.length ac) ∧
  w.cell? ⟨b, o + k * 6 + 3, none⟩ = some (.int .i64 x.df.a) ∧ w.cell? ⟨b, o + k * 6 + 4, none⟩ = some (.slice da x.df.ar.length dc) ∧ w.cell? ⟨b, o + k * 6 + 5, none⟩ = some (.int .i64 x.sz) := by
 obtain ⟨b', o', e, _, h4⟩ := h.at (by have := (List.getElem?_eq_some_iff.1 hk).1; omega)
 rw [hoa] at e
 simp only [Option.some.injEq, Addr.mk.injEq, and_true] at e
 obtain ⟨rfl, rfl⟩ := e
 obtain ⟨cs, _, ⟨kv, av, dv, rfl, h1, h2, h3, h5, h6⟩, hc⟩ := h4 k x hk
 obtain ⟨ka, kc, rfl, _⟩ := h3.slice
 obtain ⟨aa, ac, rfl⟩ := ns_slice h5.1
 obtain ⟨da, dc, rfl⟩ := ns_slice h6.1
 exact ⟨ka, kc, aa, ac, da, dc, h1, h2, h3, h5, h6, hc 0 _ rfl, hc 1 _ rfl, hc 2 _ rfl, hc 3 _ rfl, hc 4 _ rfl, hc 5 _ rfl⟩
/-- a table as a value -/
def TabV (w : World) (v : Value) (t : Tj.Tab) : Prop := ∃ ka kc aa ac da dc, v = .agg #[.string t.nm, .slice ka t.ks.length kc, .slice aa t.ac.length ac, .int .i64 t.df.a, .slice da t.df.ar.length dc, .int .i64 t.sz] ∧
 t.nm.size ≤ maxLen ∧ (Tj.B64 t.df.a ∧ Tj.B64 t.sz) ∧ Tj.Keys w (.slice ka t.ks.length kc) t.ks ∧ Tj.Is w (.slice aa t.ac.length ac) t.ac ∧ Tj.Us w (.slice da t.df.ar.length dc) t.df.ar
theorem TabV.ext {w w' : World} {v : Value} {t : Tj.Tab} (h : TabV w v t) (hx : Ext w w') : TabV w' v t := by
 obtain ⟨ka, kc, aa, ac, da, dc, h0, h1, h2, h3, h4, h5⟩ := h
 exact ⟨ka, kc, aa, ac, da, dc, h0, h1, h2, h3.ext hx, h4.ext hx, h5.ext hx⟩
theorem wf_b64 {x : Int} (h : Tj.B64 x) : (Lit.int .i64 x).wf = true := by
 obtain ⟨h1, h2⟩ := h
 show (decide (IntKind.min .i64 ≤ x) && decide (x ≤ IntKind.max .i64)) = true
 rw [Bool.and_eq_true, decide_eq_true_eq, decide_eq_true_eq]
 exact ⟨h1, h2⟩
/-- the integers of the first k places of l are in the map at B -/
def IntsM (w : World) (B : Nat) (l : List Int) (k : Nat) : Prop := ∃ D : DataW Unit, w.ownsMap Tryz.prog 3 (plainElem Tryz.prog 4) B k D ∧ ∀ s : Int, Tj.B64 s → D.atKey (.int .i64 s) (.lit (.bool false)) = .lit (.bool ((l.take k).any (· == s)))
theorem int_law : Keyed Tryz.prog 3 := int_keyed Tryz.underlying3
theorem IntsM.look {w : World} {B k : Nat} {l : List Int} (h : IntsM w B l k) {s : Int} (hs : Tj.B64 s) : (Instr.lookup 259 (.map (some B)) (.int .i64 s) false).run Tryz.prog w = .ok (.bool ((l.take k).any (· == s))) w := by
 obtain ⟨D, h1, h2⟩ := h
 obtain ⟨c, hr, hc⟩ := lookup_bool h1 int_law Tryz.underlying259 Tryz.underlying4 (zero_b w) (keyOf_int_mk Tryz.underlying3 (wf_b64 hs))
 rw [h2 s hs] at hc
 simp only [DataW.lit.injEq, Lit.bool.injEq] at hc
 rw [hr, hc]
theorem IntsM.put {w' : World} {B k : Nat} {l : List Int} {D : DataW Unit} {x : Int} (hx : l[k]? = some x) (hn : Tj.B64 x) (h2 : ∀ s : Int, Tj.B64 s → D.atKey (.int .i64 s) (.lit (.bool false)) = .lit (.bool ((l.take k).any (· == s)))) (hD : IsMap D)
 (h : w'.ownsMap Tryz.prog 3 (plainElem Tryz.prog 4) B (k + 1) (D.put (.int .i64 x) (.lit (.bool true)))) : IntsM w' B l (k + 1) := by
 refine ⟨_, h, fun s hs => ?_⟩
 have ht : l.take (k + 1) = l.take k ++ [x] := by rw [List.take_add_one, hx]; rfl
 rw [ht, List.any_append]
 by_cases e : s = x
 ·subst e
  rw [atKey_put_same hD (int_law.key (keyOf_int_mk Tryz.underlying3 (wf_b64 hn)))]
  simp
 ·have hne : (Lit.int .i64 s) ≠ .int .i64 x := fun h => e (by simpa using h)
  rw [atKey_put_other hne, h2 s hs]
  have : (x == s) = false := bF (fun h => e h.symm)
  simp [this]
theorem IntsM.new (w : World) (l : List Int) : IntsM (w.alloc (.map #[] 0)) w.heap.size l 0 :=
 ⟨.map [], World.ownsMap_made _ _ _ _, fun s _ => by simp; rfl⟩
namespace Tj
theorem lpms_next {ks : List Key} {k : Nat} {x : Key} (hx : ks[k]? = some x) : lpms (ks.take (k + 1)) = lpms (ks.take k) + (if x.k = 2 then 1 else 0) := by
 unfold lpms
 rw [List.take_add_one, hx, Option.toList, List.filter_append, List.length_append]
 by_cases h : x.k = 2 <;> simp [h]
theorem kbits_next {F : FP} {ks : List Key} {k : Nat} {x : Key} (hx : ks[k]? = some x) : kbits F (ks.take (k + 1)) = kbits F (ks.take k) + kwid F x := by
 unfold kbits
 rw [List.take_add_one, hx]; simp
theorem lpms_le (ks : List Key) : lpms ks ≤ ks.length := List.length_filter_le _ _
theorem kbits_bd (F : FP) (ks : List Key) : 0 ≤ kbits F ks ∧ kbits F ks ≤ 32 * ks.length := by
 unfold kbits
 induction ks with
 | nil => simp
 | cons x l ih =>
  have := Pg.wid_bd F.P x.h x.f
  simp only [List.map_cons, List.sum_cons, List.length_cons]
  unfold kwid at *
  omega
end Tj
theorem tkeys_any {W : World} {p : Pg.PV} {F : Tj.FP} (hF : Tj.IsF W p F) {t : Tj.Tab} {tv : Value} (ht : TabV W tv t) (h6 : t.ks.length ≤ 6) : Calls Tryz.prog 131 #[p.val, tv] W (AtP W (Tj.keysE F t)) := by
 have HW : Hid (∀ (x y : Int) w, Ext W w → Calls Tryz.prog 165 #[p.val, .agg #[.int .i64 x, .int .i64 y]] w (Rets w (.int .i64 (Pg.wid F.P x y)))) := Lh (fun x y w hx => width_any (hF.2.1.1.ext hx) x y)
 obtain ⟨a1, a2, a3, a4, a5, a6, a7, a8, m1, m2, m3, m4, m5, m6, n7, m7, m8, hf⟩ := hF.form
 obtain ⟨rfl, hnm, hhs, hmd, hrs, has, hts, hss, hct, hdp, l1, l2, l3, l4, l5, l6, l7, l8⟩ := hf
 obtain ⟨ka, kc, aa, cc, va, vc, rfl, hnm2, ⟨hbd, hbs⟩, hks, hac, har⟩ := ht
 obtain ⟨nm, ks, ac, ⟨da, ar⟩, sz⟩ := t
 obtain ⟨R, hR⟩ : ∃ z, z = Tj.keysE F ⟨nm, ks, ac, ⟨da, ar⟩, sz⟩ := ⟨_, rfl⟩
 dsimp only [Pg.PV.val] at *
 rw [← hR]
 unfold Tj.keysE at hR
 dsimp only at hR
 have HKS := Lh hks
 have bx := aH W (.cells (Yq0 F a1 m1 a2 m2 a3 m3 a4 m4 a5 m5 a6 m6 a7 m7 n7 a8 m8) 31)
 have k0 := alw (cQ 0 bx)
 have k1 := alw (cQ 1 bx)
 have k2 := alw (cQ 2 bx)
 have k3 := alw (cQ 3 bx)
 have k4 := alw (cQ 4 bx)
 have k5 := alw (cQ 5 bx)
 have k6 := alw (cQ 6 bx)
 have k7 := alw (cQ 7 bx)
 have k8 := alw (cQ 8 bx)
 clear bx
 have bx := aH (W.alloc (.cells (Yq0 F a1 m1 a2 m2 a3 m3 a4 m4 a5 m5 a6 m6 a7 m7 n7 a8 m8) 31)) (.cells #[.string nm, .slice ka ks.length kc, .slice aa ac.length cc, .int .i64 da, .slice va ar.length vc, .int .i64 sz] 108)
 rw [szA] at bx
 have j0 := alw (cQ 0 bx)
 have j1 := alw (cQ 1 bx)
 have j2 := alw (cQ 2 bx)
 have j3 := alw (cQ 3 bx)
 have j4 := alw (cQ 4 bx)
 have j5 := alw (cQ 5 bx)
 clear bx
 clear hF hnm hhs hmd hrs has hts hss hct hdp
 clear hks hac har
 have HE := Lh hR
 clear hR
 go_enter Tryz.func131, Tryz.ntmps131
 go_wp2_with fail
 go_loopw [6, 7, 14] (fun u v c wr => ∃ k : Nat, k ≤ ks.length ∧ c = .int .i64 k ∧ ∃ (n : Nat) (b : Int), u = .int .i64 n ∧ v = .int .i64 b ∧ n ≤ 6 ∧ (0 ≤ b ∧ b ≤ 192) ∧ Hid (Ext ((W.alloc (.cells (Yq0 F a1 m1 a2 m2 a3 m3 a4 m4 a5 m5 a6 m6 a7 m7 n7 a8 m8) 31)).alloc (.cells #[.string nm, .slice ka ks.length kc, .slice aa ac.length cc, .int .i64 da, .slice va ar.length vc, .int .i64 sz] 108)) wr ∧ n = Tj.lpms (ks.take k) ∧ b = Tj.kbits F (ks.take k) ∧ ∀ j y, j < k → ks[j]? = some y → Tj.keyE F y = 0)) (fun _ _ c _ => ks.length - (intOf c).toNat)
 case atStart => exact ⟨0, Nat.zero_le _, rfl, 0, 0, rfl, rfl, by omega, by omega, Lh ⟨eR _, rfl, rfl, by intro j y hj; omega⟩⟩
 case round =>
  obtain ⟨k, hk, rfl, n, b, rfl, rfl, hn6, hb6, HZ⟩ := hrel
  have sx : Step ((W.alloc (.cells (Yq0 F a1 m1 a2 m2 a3 m3 a4 m4 a5 m5 a6 m6 a7 m7 n7 a8 m8) 31)).alloc (.cells #[.string nm, .slice ka ks.length kc, .slice aa ac.length cc, .int .i64 da, .slice va ar.length vc, .int .i64 sz] 108)) wr := ⟨HZ.out.1⟩
  by_cases hlt : k < ks.length
  ·obtain ⟨⟨x1, x2, x3⟩, hx⟩ : ∃ x, ks[k]? = some x := ⟨_, gE hlt⟩
   obtain ⟨kb, ko, rfl, _, _⟩ := Rows.at HKS.out (by omega)
   obtain ⟨g0, g1, g2⟩ := keys_at HKS.out k _ hx rfl
   dsimp only at g0 g1 g2
   have v0 := alw g0
   have v1 := alw g1
   have v2 := alw g2
   have HX := Lh hx
   have bx := aH wr (.cells #[.int .i64 x1, .int .i64 x2, .int .i64 x3] 186)
   have q0 := alw (cQ 0 bx)
   have q1 := alw (cQ 1 bx)
   have q2 := alw (cQ 2 bx)
   clear bx
   obtain ⟨wd, hwd⟩ : ∃ z, z = Pg.wid F.P x1 x2 := ⟨_, rfl⟩
   have hwb := Pg.wid_bd F.P x1 x2
   have HC := Lh (HW.out x1 x2)
   rw [← hwd] at HC hwb
   have HWD : Hid (wd = Tj.kwid F ⟨x1, x2, x3⟩) := Lh hwd
   have hle : Tj.lpms (ks.take (k + 1)) ≤ 6 := by
    refine Nat.le_trans (Tj.lpms_le _) ?_
    rw [List.length_take]; omega
   have hle2 := Tj.kbits_bd F (ks.take (k + 1))
   have hle3 : (ks.take (k + 1)).length ≤ 6 := by rw [List.length_take]; omega
   rw [Tj.kbits_next hx, ← HWD.out] at hle2
   rw [Tj.lpms_next hx] at hle
   have HL1 := Lh hle
   have HL2 := Lh hle2
   have HL3 := Lh hle3
   have HN1 := Lh (Tj.lpms_next hx)
   have HN2 := Lh (Tj.kbits_next (F := F) hx)
   clear hx g0 g1 g2 hwd hle hle2 hle3
   by_cases hw0 : wd = 0
   ·have HE2 : Hid (R = 8) := Lh (by
     have e : Tj.keyE F ⟨x1, x2, x3⟩ = 8 := by unfold Tj.keyE; rw [if_pos (by rw [← HWD.out]; exact hw0)]
     rw [HE.out, Tj.firstE_at HX.out HZ.out.2.2.2 (by rw [e]; decide), e]; rfl)
    have z1 : (wd == 0) = true := bT hw0
    clear hw0
    go_wp2_with fail
    refine via (HC.out _ grows) fun w7 xw7 sw7 => ?_
    go_wp2_with fail
    go_ret2
    exact at_ret _ (by rw [HE2.out]) grows
   ·have z1 : (wd == 0) = false := bF hw0
    have HW0 := Lh hw0
    clear hw0
    by_cases h2 : x3 = 2
    ·subst h2
     go_wp2_with fail
     refine via (HC.out _ grows) fun w7 xw7 sw7 => ?_
     go_wp2_with fail
     go_roundw
     case rel =>
      refine ⟨k + 1, by omega, by go_num, n + 1, b + wd, by go_num, rfl, by have h := HL1.out; rw [← HZ.out.2.1] at h; simpa using h, by have h := HL2.out; rw [← HZ.out.2.2.1] at h; have := HL3.out; omega, Lh ⟨grows, by rw [HN1.out, ← HZ.out.2.1]; simp, by rw [HN2.out, ← HZ.out.2.2.1, ← HWD.out], fun j y hj hy => ?_⟩⟩
      rcases Nat.lt_or_ge j k with h1 | h1
      ·exact HZ.out.2.2.2 j y h1 hy
      ·obtain rfl : j = k := by omega
       rw [HX.out] at hy
       obtain rfl := Option.some.inj hy
       unfold Tj.keyE; rw [if_neg (by rw [← HWD.out]; exact HW0.out), if_pos (.inr (.inl rfl))]
     case measure => simp [intOf]; omega
    ·by_cases h13 : x3 = 1 ∨ x3 = 3
     ·have HX3 := Lh h2
      clear h2
      rcases h13 with rfl | rfl
      all_goals
       go_wp2_with fail
       refine via (HC.out _ grows) fun w7 xw7 sw7 => ?_
       go_wp2_with fail
       go_roundw
       case rel =>
        refine ⟨k + 1, by omega, by go_num, n, b + wd, by go_num, rfl, by have h := HL1.out; rw [← HZ.out.2.1] at h; simpa using h, by have h := HL2.out; rw [← HZ.out.2.2.1] at h; have := HL3.out; omega, Lh ⟨grows, by rw [HN1.out, ← HZ.out.2.1]; simp, by rw [HN2.out, ← HZ.out.2.2.1, ← HWD.out], fun j y hj hy => ?_⟩⟩
        rcases Nat.lt_or_ge j k with h1 | h1
        ·exact HZ.out.2.2.2 j y h1 hy
        ·obtain rfl : j = k := by omega
         rw [HX.out] at hy
         obtain rfl := Option.some.inj hy
         unfold Tj.keyE; rw [if_neg (by rw [← HWD.out]; exact HW0.out), if_pos (by simp)]
       case measure => simp [intOf]; omega
     ·have HE2 : Hid (R = 11) := Lh (by
       have e : Tj.keyE F ⟨x1, x2, x3⟩ = 11 := by unfold Tj.keyE; rw [if_neg (by rw [← HWD.out]; exact HW0.out), if_neg (by show ¬ (x3 = 1 ∨ x3 = 2 ∨ x3 = 3); omega)]
       rw [HE.out, Tj.firstE_at HX.out HZ.out.2.2.2 (by rw [e]; decide), e]; rfl)
      have e1 : (x3 == 1) = false := bF (by omega)
      have e2 : (x3 == 2) = false := bF (by omega)
      have e3 : (x3 == 3) = false := bF (by omega)
      clear h2 h13
      go_wp2_with fail
      refine via (HC.out _ grows) fun w7 xw7 sw7 => ?_
      go_wp2_with fail
      go_ret2
      exact at_ret _ (by rw [HE2.out]) grows
  ·obtain rfl : k = ks.length := by omega
   have HE2 : Hid (R = if 1 < n then 7 else if 64 < b then 10 else 0) := Lh (by
    rw [HE.out, Tj.firstE_zero (fun j x hx => HZ.out.2.2.2 j x (List.getElem?_eq_some_iff.1 hx).1 hx), if_neg (by simp), HZ.out.2.1, HZ.out.2.2.1, List.take_length])
   by_cases hn : 1 < n
   ·have HE3 : Hid (R = 7) := Lh (by rw [HE2.out, if_pos hn])
    have d1 : decide ((1 : Int) < (n : Int)) = true := dTt (by omega)
    go_wp2_with fail
    go_ret2
    exact at_ret _ (by rw [HE3.out]) grows
   ·have d1 : decide ((1 : Int) < (n : Int)) = false := dF (by omega)
    by_cases hb : 64 < b
    ·have HE3 : Hid (R = 10) := Lh (by rw [HE2.out, if_neg hn, if_pos hb])
     have d2 : decide ((64 : Int) < b) = true := dTt (by omega)
     go_wp2_with fail
     go_ret2
     exact at_ret _ (by rw [HE3.out]) grows
    ·have HE3 : Hid (R = 0) := Lh (by rw [HE2.out, if_neg hn, if_neg hb])
     have d2 : decide ((64 : Int) < b) = false := dF (by omega)
     go_wp2_with fail
     go_ret2
     exact at_ret _ (by rw [HE3.out]) grows
theorem rangeE_at {f : Nat → Int} {n k : Nat} (hk : k < n) (h : ∀ j, j < k → f j = 0) (hx : f k ≠ 0) : Tj.firstE f (List.range n) = f k :=
 Tj.firstE_at (k := k) (List.getElem?_range hk) (fun j y hj hy => by
  rw [List.getElem?_range (by omega)] at hy
  obtain rfl := Option.some.inj hy
  exact h j hj) hx
theorem rangeE_zero {f : Nat → Int} {n : Nat} (h : ∀ j, j < n → f j = 0) : Tj.firstE f (List.range n) = 0 :=
 Tj.firstE_zero (fun j x hx => by
  have hlt := (List.getElem?_eq_some_iff.1 hx).1
  rw [List.length_range] at hlt
  rw [List.getElem?_range hlt] at hx
  obtain rfl := Option.some.inj hx
  exact h j hlt)
theorem tacts_any {W : World} {p : Pg.PV} {F : Tj.FP} (hF : Tj.IsF W p F) {t : Tj.Tab} {tv : Value} (ht : TabV W tv t) : Calls Tryz.prog 132 #[p.val, tv] W (Rets W (.int .i64 (Tj.tactsE F t))) := by
 have HF := Lh hF
 obtain ⟨nm, ks, ac, ⟨da, ar⟩, sz⟩ := t
 obtain ⟨a1, a2, a3, a4, a5, a6, a7, a8, m1, m2, m3, m4, m5, m6, n7, m7, m8, hf⟩ := hF.form
 obtain ⟨rfl, hnm, hhs, hmd, hrs, has, hts, hss, hct, hdp, l1, l2, l3, l4, l5, l6, l7, l8⟩ := hf
 obtain ⟨ka, kc, aa, cc, va, vc, rfl, hnm2, ⟨hbd, hbs⟩, hks, hac, har⟩ := ht
 dsimp only [Pg.PV.val] at *
 have HCC := Lh (fun (w : World) (hx : Ext W w) => ccall_any (HF.out.ext hx) ⟨da, ar⟩ (har.ext hx))
 obtain ⟨R, hR⟩ : ∃ z, z = Tj.tactsE F ⟨nm, ks, ac, ⟨da, ar⟩, sz⟩ := ⟨_, rfl⟩
 rw [← hR]
 unfold Tj.tactsE at hR
 dsimp only at hR
 have HAC := Lh hac
 have hacl := hac.1.2
 unfold maxLen at hacl
 have bx := aH W (.cells (Yq0 F a1 m1 a2 m2 a3 m3 a4 m4 a5 m5 a6 m6 a7 m7 n7 a8 m8) 31)
 have k0 := alw (cQ 0 bx)
 have k1 := alw (cQ 1 bx)
 have k2 := alw (cQ 2 bx)
 have k3 := alw (cQ 3 bx)
 have k4 := alw (cQ 4 bx)
 have k5 := alw (cQ 5 bx)
 have k6 := alw (cQ 6 bx)
 have k7 := alw (cQ 7 bx)
 have k8 := alw (cQ 8 bx)
 clear bx
 have bx := aH (W.alloc (.cells (Yq0 F a1 m1 a2 m2 a3 m3 a4 m4 a5 m5 a6 m6 a7 m7 n7 a8 m8) 31)) (.cells #[.string nm, .slice ka ks.length kc, .slice aa ac.length cc, .int .i64 da, .slice va ar.length vc, .int .i64 sz] 108)
 rw [szA] at bx
 have j0 := alw (cQ 0 bx)
 have j1 := alw (cQ 1 bx)
 have j2 := alw (cQ 2 bx)
 have j3 := alw (cQ 3 bx)
 have j4 := alw (cQ 4 bx)
 have j5 := alw (cQ 5 bx)
 clear bx
 clear hF hnm hhs hmd hrs has hts hss hct hdp
 clear hks hac har HF
 have HE := Lh hR
 have hmm := @run_makeMap Tryz.prog
 clear hR
 go_enter Tryz.func132, Tryz.ntmps132
 go_wp2_with fail
 go_loopw [12] (fun c wr => ∃ k : Nat, k ≤ ac.length ∧ c = .int .i64 k ∧ Hid (IntsM wr (W.heap.size + 2) ac k ∧ Ext ((W.alloc (.cells (Yq0 F a1 m1 a2 m2 a3 m3 a4 m4 a5 m5 a6 m6 a7 m7 n7 a8 m8) 31)).alloc (.cells #[.string nm, .slice ka ks.length kc, .slice aa ac.length cc, .int .i64 da, .slice va ar.length vc, .int .i64 sz] 108)) wr ∧ ∀ j, j < k → Tj.tactE F ac j = 0)) (fun c _ => ac.length - (intOf c).toNat)
 case atStart => exact ⟨0, Nat.zero_le _, rfl, Lh ⟨by have h := IntsM.new ((W.alloc (.cells (Yq0 F a1 m1 a2 m2 a3 m3 a4 m4 a5 m5 a6 m6 a7 m7 n7 a8 m8) 31)).alloc (.cells #[.string nm, .slice ka ks.length kc, .slice aa ac.length cc, .int .i64 da, .slice va ar.length vc, .int .i64 sz] 108)) ac; rw [szA, szA] at h; exact h, (eR _).alloc _, by intro j hj; omega⟩⟩
 case round =>
  clear hmm
  obtain ⟨k, hk, rfl, HZ⟩ := hrel
  have sx : Step ((W.alloc (.cells (Yq0 F a1 m1 a2 m2 a3 m3 a4 m4 a5 m5 a6 m6 a7 m7 n7 a8 m8) 31)).alloc (.cells #[.string nm, .slice ka ks.length kc, .slice aa ac.length cc, .int .i64 da, .slice va ar.length vc, .int .i64 sz] 108)) wr := ⟨HZ.out.2.1⟩
  have HN := Lh HZ.out.1
  by_cases hlt : k < ac.length
  ·obtain ⟨x, hx⟩ : ∃ x, ac[k]? = some x := ⟨_, gE hlt⟩
   obtain ⟨b, o, rfl, hc⟩ := ns_at HAC.out.1 (by omega)
   have v0 := hc k x hx
   have HX := Lh hx
   have HB : Hid (Tj.B64 x) := Lh (HAC.out.2 x (List.mem_of_getElem? hx))
   have hg : ac.getD k 0 = x := by rw [List.getD_eq_getElem?_getD, hx]; rfl
   have HG := Lh hg
   clear hx hc hg
   by_cases h0 : x < 0
   ·have HE2 : Hid (R = 8) := Lh (by
     have e : Tj.tactE F ac k = 8 := by unfold Tj.tactE; rw [HG.out, if_pos (.inl h0)]
     rw [HE.out, rangeE_at hlt HZ.out.2.2 (by rw [e]; decide), e]; rfl)
    have d1 : decide (x < 0) = true := dTt (by omega)
    go_wp2_with fail
    go_ret
    exact ⟨ret_int (by rw [HE2.out]), grows⟩
   ·have d1 : decide (x < 0) = false := dF (by omega)
    by_cases h1 : (F.ac.length : Int) ≤ x
    ·have HE2 : Hid (R = 8) := Lh (by
      have e : Tj.tactE F ac k = 8 := by unfold Tj.tactE; rw [HG.out, if_pos (.inr h1)]
      rw [HE.out, rangeE_at hlt HZ.out.2.2 (by rw [e]; decide), e]; rfl)
     have d2 : decide ((F.ac.length : Int) ≤ x) = true := dTt (by omega)
     go_wp2_with fail
     go_ret
     exact ⟨ret_int (by rw [HE2.out]), grows⟩
    ·have d2 : decide ((F.ac.length : Int) ≤ x) = false := dF (by omega)
     have H01 : Hid (¬ (x < 0 ∨ (F.ac.length : Int) ≤ x)) := Lh (by omega)
     clear h0 h1
     obtain ⟨se, hse⟩ : ∃ z, z = (ac.take k).any (· == x) := ⟨_, rfl⟩
     have HSE := Lh hse
     have hlook := HN.out.look HB.out
     rw [← hse] at hlook
     clear hse
     cases se with
     | true =>
      have HE2 : Hid (R = 7) := Lh (by
       have e : Tj.tactE F ac k = 7 := by unfold Tj.tactE; rw [HG.out, if_neg H01.out, if_pos HSE.out.symm]
       rw [HE.out, rangeE_at hlt HZ.out.2.2 (by rw [e]; decide), e]; rfl)
      go_wp2_with fail
      go_ret
      exact ⟨ret_int (by rw [HE2.out]), grows⟩
     | false =>
      obtain ⟨D, hD⟩ := HN.out
      have HD2 := Lh hD.2
      have HOW := Lh hD.1
      have HKY := Lh (keyOf_int_mk Tryz.underlying3 (wf_b64 HB.out))
      have HDM : Hid (IsMap D) := Lh (by obtain ⟨es, clock, _, _, _, e⟩ := hD.1; exact ⟨_, e⟩)
      clear hD
      go_wp2_with (first | (at_mapUpdate; refine wpList_mapUpdate_own _ rfl _ _ _ 259 rfl 3 4 int_law Tryz.underlying259 _ (W.heap.size + 2) k _ rfl HOW.out (by unfold maxLen; omega) _ _ _ rfl rfl HKY.out _ [] (plainElem_bool Tryz.underlying4 true) ?_) | fail)
      intro w6 hown6 hg6
      have hx6 : Ext ((W.alloc (.cells (Yq0 F a1 m1 a2 m2 a3 m3 a4 m4 a5 m5 a6 m6 a7 m7 n7 a8 m8) 31)).alloc (.cells #[.string nm, .slice ka ks.length kc, .slice (some ⟨b, o, none⟩) ac.length cc, .int .i64 da, .slice va ar.length vc, .int .i64 sz] 108)) w6 := grown_map (grows (a := ((W.alloc (.cells (Yq0 F a1 m1 a2 m2 a3 m3 a4 m4 a5 m5 a6 m6 a7 m7 n7 a8 m8) 31)).alloc (.cells #[.string nm, .slice ka ks.length kc, .slice (some ⟨b, o, none⟩) ac.length cc, .int .i64 da, .slice va ar.length vc, .int .i64 sz] 108))) (b := wr)) hg6 (by rw [szA, szA]; exact Nat.le_refl _)
      have HN6 : Hid (IntsM w6 (W.heap.size + 2) ac (k + 1)) := Lh (IntsM.put HX.out HB.out HD2.out HDM.out hown6)
      have HX6 := Lh hx6
      clear hown6 hg6 hx6 hlook
      go_wp2_with fail
      go_roundw
      case rel =>
       refine ⟨k + 1, by omega, by go_num, Lh ⟨HN6.out, HX6.out, fun j hj => ?_⟩⟩
       rcases Nat.lt_or_ge j k with h1 | h1
       ·exact HZ.out.2.2 j h1
       ·obtain rfl : j = k := by omega
        unfold Tj.tactE; rw [HG.out, if_neg H01.out, if_neg (by rw [← HSE.out]; decide)]
      case measure => simp [intOf]; omega
  ·obtain rfl : k = ac.length := by omega
   obtain ⟨se, hse⟩ : ∃ z, z = ac.any (· == da) := ⟨_, rfl⟩
   have hlook := HN.out.look hbd
   rw [List.take_length, ← hse] at hlook
   have HE2 : Hid (R = if se then Tj.callE F ⟨da, ar⟩ else 8) := Lh (by rw [HE.out, rangeE_zero HZ.out.2.2, if_neg (by simp), hse])
   obtain ⟨ce, hce⟩ : ∃ z, z = Tj.callE F ⟨da, ar⟩ := ⟨_, rfl⟩
   rw [← hce] at HCC HE2
   clear hse hce
   cases se with
   | true =>
    go_wp2_with fail
    refine via (HCC.out _ grows) fun w7 xw7 sw7 => ?_
    go_wp2_with fail
    go_ret
    exact ⟨ret_int (by rw [HE2.out]; rfl), grows⟩
   | false =>
    go_wp2_with fail
    go_ret
    exact ⟨ret_int (by rw [HE2.out]; rfl), grows⟩
namespace Tj
/-- what is wrong with table t of a program -/
def tabI (F : FP) (t : Int) : Int := match at? F.ts t with | some x => tabE F x | none => 8
def tab0 : Tab := ⟨⟨#[]⟩, [], [], ⟨0, []⟩, 0⟩
def tabAt (F : FP) (t : Int) : Tab := (at? F.ts t).getD tab0
def wids (F : FP) (t : Int) : List Int := if tabI F t = 0 then (tabAt F t).ks.map (kwid F) else []
/-- the kind of a list of keys, where the kind so far is c -/
def kindK : Int → List Key → Int
 | c, [] => c
 | c, k :: l => if k.k = 3 then 3 else if k.k = 2 then kindK 2 l else kindK c l
def kind (F : FP) (t : Int) : Int := if tabI F t = 0 then kindK 1 (tabAt F t).ks else 0
def allow (F : FP) (t a : Int) : Bool := if tabI F t = 0 then (tabAt F t).ac.any (· == a) else false
theorem tab_of {F : FP} {t : Int} (h : tabI F t = 0) : ∃ x, at? F.ts t = some x ∧ tabE F x = 0 ∧ tabAt F t = x := by
 unfold tabI at h
 cases hx : at? F.ts t with
 | none => rw [hx] at h; cases h
 | some x => rw [hx] at h; exact ⟨x, rfl, h, by unfold tabAt; rw [hx]; rfl⟩
theorem tab_ks {F : FP} {x : Tab} (h : tabE F x = 0) : x.ks.length ≤ 6 ∧ x.ac.length ≤ 16 ∧ (1 ≤ x.sz ∧ x.sz ≤ 256) := by
 unfold tabE at h
 by_cases h1 : Id.ok x.nm = true
 ·rw [if_pos h1] at h
  by_cases h2 : 6 < x.ks.length ∨ 16 < x.ac.length
  ·rw [if_pos h2] at h; exact absurd h (by decide)
  ·rw [if_neg h2] at h
   by_cases h3 : x.sz < 1 ∨ 256 < x.sz
   ·rw [if_pos h3] at h; exact absurd h (by decide)
   ·omega
 ·rw [if_neg h1] at h; exact absurd h (by decide)
theorem kindK_cons {c : Int} {ks : List Key} {j : Nat} {x : Key} (hx : ks[j]? = some x) : kindK c (ks.drop j) = if x.k = 3 then 3 else if x.k = 2 then kindK 2 (ks.drop (j + 1)) else kindK c (ks.drop (j + 1)) := by
 obtain ⟨hlt, e⟩ := List.getElem?_eq_some_iff.1 hx
 rw [List.drop_eq_getElem_cons hlt, e]; rfl
end Tj
abbrev Yq3 (F : Tj.FP) (a1 : Option Addr) (m1 : Nat) (a2 : Option Addr) (m2 : Nat) (a3 : Option Addr) (m3 : Nat) (a4 : Option Addr) (m4 : Nat) (tb : Nat) (tq : Nat) (m5 : Nat) (a6 : Option Addr) (m6 : Nat) (a7 : Option Addr) (m7 : Nat) (n7 : Nat) (a8 : Option Addr) (m8 : Nat) : Array Value := #[.string F.nm, .slice a1 F.P.hs.length m1, .slice a2 F.P.md.length m2, .slice a3 F.rs.length m3, .slice a4 F.ac.length m4, .slice (some ⟨tb, tq, none⟩) F.ts.length m5, .slice a6 F.ss.length m6, .slice a7 n7 m7, .slice a8 F.P.dp.length m8]
theorem tcheck_any {W : World} {p : Pg.PV} {F : Tj.FP} (hF : Tj.IsF W p F) (t : Int) : Calls Tryz.prog 94 #[p.val, .int .i64 t] W (AtP W (Tj.tabI F t)) := by
 have HF := Lh hF
 obtain ⟨a1, a2, a3, a4, a5, a6, a7, a8, m1, m2, m3, m4, m5, m6, n7, m7, m8, hf⟩ := hF.form
 obtain ⟨rfl, hnm, hhs, hmd, hrs, has, hts, hss, hct, hdp, l1, l2, l3, l4, l5, l6, l7, l8⟩ := hf
 obtain ⟨R, hR⟩ : ∃ z, z = Tj.tabI F t := ⟨_, rfl⟩
 rw [← hR]
 unfold Tj.tabI at hR
 dsimp only [Pg.PV.val]
 clear hnm hhs hmd hrs has hss hct hdp hF
 have bx := aH W (.cells (Yq0 F a1 m1 a2 m2 a3 m3 a4 m4 a5 m5 a6 m6 a7 m7 n7 a8 m8) 31)
 have k0 := alw (cQ 0 bx)
 have k1 := alw (cQ 1 bx)
 have k2 := alw (cQ 2 bx)
 have k3 := alw (cQ 3 bx)
 have k4 := alw (cQ 4 bx)
 have k5 := alw (cQ 5 bx)
 have k6 := alw (cQ 6 bx)
 have k7 := alw (cQ 7 bx)
 have k8 := alw (cQ 8 bx)
 clear bx
 by_cases hi0 : t < 0
 ·have HE : Hid (R = 8) := Lh (by rw [hR, Tj.at_none (.inl hi0)])
  have d1 : decide (t < 0) = true := dTt (by omega)
  clear hR hts
  go_enter Tryz.func94, Tryz.ntmps94
  go_wp2_with fail
  go_ret2
  exact at_ret _ (by rw [HE.out]) grows
 ·have d1 : decide (t < 0) = false := dF (by omega)
  by_cases hi1 : (F.ts.length : Int) ≤ t
  ·have HE : Hid (R = 8) := Lh (by rw [hR, Tj.at_none (.inr hi1)])
   have d2 : decide ((F.ts.length : Int) ≤ t) = true := dTt (by omega)
   clear hR hts
   go_enter Tryz.func94, Tryz.ntmps94
   go_wp2_with fail
   go_ret2
   exact at_ret _ (by rw [HE.out]) grows
  ·have d2 : decide ((F.ts.length : Int) ≤ t) = false := dF (by omega)
   obtain ⟨q, rfl⟩ := Int.eq_ofNat_of_zero_le (show 0 ≤ t by omega)
   obtain ⟨x, hq⟩ : ∃ x, F.ts[q]? = some x := ⟨_, gE (by omega)⟩
   obtain ⟨tb, tq, rfl, _, _⟩ := Rows.at hts (by omega)
   obtain ⟨ka, kc, aa, cc, va, vc, hnm2, hbb, hks, hac, har, g0, g1, g2, g3, g4, g5⟩ := tabs_at hts q x hq rfl
   have hat : Tj.at? F.ts (q : Int) = some x := by unfold Tj.at?; rw [if_pos (by omega), Int.toNat_natCast]; exact hq
   rw [hat] at hR
   dsimp only at hR
   have HTV : Hid (TabV W (.agg #[.string x.nm, .slice ka x.ks.length kc, .slice aa x.ac.length cc, .int .i64 x.df.a, .slice va x.df.ar.length vc, .int .i64 x.sz]) x) := Lh ⟨ka, kc, aa, cc, va, vc, rfl, hnm2, hbb, hks, hac, har⟩
   have HKE : Hid (x.ks.length ≤ 6 → ∀ w, Ext W w → Calls Tryz.prog 131 #[.agg (Yq3 F a1 m1 a2 m2 a3 m3 a4 m4 tb tq m5 a6 m6 a7 m7 n7 a8 m8), .agg #[.string x.nm, .slice ka x.ks.length kc, .slice aa x.ac.length cc, .int .i64 x.df.a, .slice va x.df.ar.length vc, .int .i64 x.sz]] w (AtP w (Tj.keysE F x))) := Lh (fun h6 w hx => tkeys_any (HF.out.ext hx) (HTV.out.ext hx) h6)
   have HAE := Lh (fun (w : World) (hx : Ext W w) => tacts_any (HF.out.ext hx) (HTV.out.ext hx))
   have HNM := Lh hnm2
   obtain ⟨nm, ks, ac, ⟨da, ar⟩, sz⟩ := x
   dsimp only at *
   have y0 := alw g0
   have y1 := alw g1
   have y2 := alw g2
   have y3 := alw g3
   have y4 := alw g4
   have y5 := alw g5
   have bx := aH (W.alloc (.cells (Yq3 F a1 m1 a2 m2 a3 m3 a4 m4 tb tq m5 a6 m6 a7 m7 n7 a8 m8) 31)) (.cells #[.string nm, .slice ka ks.length kc, .slice aa ac.length cc, .int .i64 da, .slice va ar.length vc, .int .i64 sz] 108)
   rw [szA] at bx
   have tk0 := alw (cQ 0 bx)
   have tk1 := alw (cQ 1 bx)
   have tk2 := alw (cQ 2 bx)
   have tk3 := alw (cQ 3 bx)
   have tk4 := alw (cQ 4 bx)
   have tk5 := alw (cQ 5 bx)
   clear bx
   unfold Tj.tabE at hR
   dsimp only at hR
   obtain ⟨ke, hke⟩ : ∃ z, z = Tj.keysE F ⟨nm, ks, ac, ⟨da, ar⟩, sz⟩ := ⟨_, rfl⟩
   obtain ⟨ae, hae⟩ : ∃ z, z = Tj.tactsE F ⟨nm, ks, ac, ⟨da, ar⟩, sz⟩ := ⟨_, rfl⟩
   rw [← hke] at HKE hR
   rw [← hae] at HAE hR
   clear hts hnm2 hbb hks hac har g0 g1 g2 g3 g4 g5 hq hat hke hae
   cases hok : Id.ok nm with
   | false =>
    have HE : Hid (R = 6) := Lh (by rw [hR, if_neg (by rw [hok]; decide)])
    have HOK := Lh hok
    clear hR hok
    go_enter Tryz.func94, Tryz.ntmps94
    go_wp2_with (first | (go_at_call 124; refine (ident_any _ _ HNM.out).mono ?_; rintro e w1 ⟨rfl, rfl⟩; rw [HOK.out]) | fail)
    go_ret2
    exact at_ret _ (by rw [HE.out]) grows
   | true =>
    have HOK := Lh hok
    rw [if_pos hok] at hR
    clear hok
    by_cases h6 : 6 < ks.length
    ·have HE : Hid (R = 12) := Lh (by rw [hR, if_pos (.inl h6)])
     have e1 : decide ((6 : Int) < (ks.length : Int)) = true := dTt (by omega)
     clear hR
     go_enter Tryz.func94, Tryz.ntmps94
     go_wp2_with (first | (go_at_call 124; refine (ident_any _ _ HNM.out).mono ?_; rintro e w1 ⟨rfl, rfl⟩; rw [HOK.out]) | fail)
     go_ret2
     exact at_ret _ (by rw [HE.out]) grows
    ·have e1 : decide ((6 : Int) < (ks.length : Int)) = false := dF (by omega)
     by_cases h16 : 16 < ac.length
     ·have HE : Hid (R = 12) := Lh (by rw [hR, if_pos (.inr h16)])
      have e2 : decide ((16 : Int) < (ac.length : Int)) = true := dTt (by omega)
      clear hR
      go_enter Tryz.func94, Tryz.ntmps94
      go_wp2_with (first | (go_at_call 124; refine (ident_any _ _ HNM.out).mono ?_; rintro e w1 ⟨rfl, rfl⟩; rw [HOK.out]) | fail)
      go_ret2
      exact at_ret _ (by rw [HE.out]) grows
     ·have e2 : decide ((16 : Int) < (ac.length : Int)) = false := dF (by omega)
      rw [if_neg (by omega)] at hR
      by_cases hs1 : sz < 1
      ·have HE : Hid (R = 9) := Lh (by rw [hR, if_pos (.inl hs1)])
       have e3 : decide (sz < 1) = true := dTt (by omega)
       clear hR
       go_enter Tryz.func94, Tryz.ntmps94
       go_wp2_with (first | (go_at_call 124; refine (ident_any _ _ HNM.out).mono ?_; rintro e w1 ⟨rfl, rfl⟩; rw [HOK.out]) | fail)
       go_ret2
       exact at_ret _ (by rw [HE.out]) grows
      ·have e3 : decide (sz < 1) = false := dF (by omega)
       by_cases hs2 : 256 < sz
       ·have HE : Hid (R = 9) := Lh (by rw [hR, if_pos (.inr hs2)])
        have e4 : decide (256 < sz) = true := dTt (by omega)
        clear hR
        go_enter Tryz.func94, Tryz.ntmps94
        go_wp2_with (first | (go_at_call 124; refine (ident_any _ _ HNM.out).mono ?_; rintro e w1 ⟨rfl, rfl⟩; rw [HOK.out]) | fail)
        go_ret2
        exact at_ret _ (by rw [HE.out]) grows
       ·have e4 : decide (256 < sz) = false := dF (by omega)
        rw [if_neg (by omega)] at hR
        have HKE2 := Lh (HKE.out (by omega))
        clear HKE
        by_cases hk0 : ke = 0
        ·subst hk0
         rw [if_neg (by simp)] at hR
         by_cases ha0 : ae = 0
         ·subst ha0
          have HE := Lh hR
          clear hR
          go_enter Tryz.func94, Tryz.ntmps94
          go_wp2_with (first | (go_at_call 124; refine (ident_any _ _ HNM.out).mono ?_; rintro e w1 ⟨rfl, rfl⟩; rw [HOK.out]) | fail)
          refine (HKE2.out _ grows).mono ?_
          rintro e w3 ⟨i3, rfl, x3⟩
          have s3 := Sm x3
          go_wp2_with fail
          refine via (HAE.out _ grows) fun w4 xw4 sw4 => ?_
          go_wp2_with fail
          go_ret2
          exact at_ret _ (by rw [HE.out]) grows
         ·have HE := Lh hR
          have z2 : (ae != 0) = true := nT ha0
          clear hR ha0
          go_enter Tryz.func94, Tryz.ntmps94
          go_wp2_with (first | (go_at_call 124; refine (ident_any _ _ HNM.out).mono ?_; rintro e w1 ⟨rfl, rfl⟩; rw [HOK.out]) | fail)
          refine (HKE2.out _ grows).mono ?_
          rintro e w3 ⟨i3, rfl, x3⟩
          have s3 := Sm x3
          go_wp2_with fail
          refine via (HAE.out _ grows) fun w4 xw4 sw4 => ?_
          go_wp2_with fail
          go_ret2
          exact at_ret _ (by rw [HE.out]) grows
        ·have HE : Hid (R = ke) := Lh (by rw [hR, if_pos hk0])
         have z1 : (ke != 0) = true := nT hk0
         clear hR hk0
         go_enter Tryz.func94, Tryz.ntmps94
         go_wp2_with (first | (go_at_call 124; refine (ident_any _ _ HNM.out).mono ?_; rintro e w1 ⟨rfl, rfl⟩; rw [HOK.out]) | fail)
         refine (HKE2.out _ grows).mono ?_
         rintro e w3 ⟨i3, rfl, x3⟩
         have s3 := Sm x3
         go_wp2_with fail
         go_ret2
         exact at_ret _ (by rw [HE.out]) grows
theorem tvalid_any {W : World} {p : Pg.PV} {F : Tj.FP} (hF : Tj.IsF W p F) (t : Int) : Calls Tryz.prog 185 #[p.val, .int .i64 t] W (Rets W (.bool (Tj.tabI F t == 0))) := by
 have HC := Lh (fun (w : World) (hx : Ext W w) => tcheck_any (hF.ext hx) t)
 obtain ⟨a1, a2, a3, a4, a5, a6, a7, a8, m1, m2, m3, m4, m5, m6, n7, m7, m8, hf⟩ := hF.form
 obtain ⟨rfl, hnm, hhs, hmd, hrs, has, hts, hss, hct, hdp, l1, l2, l3, l4, l5, l6, l7, l8⟩ := hf
 obtain ⟨R, hR⟩ : ∃ z, z = Tj.tabI F t := ⟨_, rfl⟩
 rw [← hR] at HC ⊢
 dsimp only [Pg.PV.val] at HC ⊢
 clear hF hnm hhs hmd hrs has hts hss hct hdp
 clear hR
 have bx := aH W (.cells (Yq0 F a1 m1 a2 m2 a3 m3 a4 m4 a5 m5 a6 m6 a7 m7 n7 a8 m8) 31)
 have k0 := alw (cQ 0 bx)
 have k1 := alw (cQ 1 bx)
 have k2 := alw (cQ 2 bx)
 have k3 := alw (cQ 3 bx)
 have k4 := alw (cQ 4 bx)
 have k5 := alw (cQ 5 bx)
 have k6 := alw (cQ 6 bx)
 have k7 := alw (cQ 7 bx)
 have k8 := alw (cQ 8 bx)
 clear bx
 go_enter Tryz.func185, Tryz.ntmps185
 go_wp2_with fail
 refine (HC.out _ grows).mono ?_
 rintro e w3 ⟨i3, rfl, x3⟩
 have s3 := Sm x3
 go_wp2_with fail
 go_ret
 exact ⟨rfl, grows⟩
/-- a slice of Go's ints in new memory, or nil -/
def IntsP (W : World) (l : List Int) (e : Ending) (w' : World) : Prop := ∃ v, e = .returned v ∧ Ext W w' ∧ Ns .i64 w' v l
theorem twidths_any {W : World} {p : Pg.PV} {F : Tj.FP} (hF : Tj.IsF W p F) (t : Int) : Calls Tryz.prog 171 #[p.val, .int .i64 t] W (IntsP W (Tj.wids F t)) := by
 have HF := Lh hF
 have HV := Lh (fun (w : World) (hx : Ext W w) => tvalid_any (hF.ext hx) t)
 have HW : Hid (∀ (x y : Int) w, Ext W w → Calls Tryz.prog 165 #[p.val, .agg #[.int .i64 x, .int .i64 y]] w (Rets w (.int .i64 (Pg.wid F.P x y)))) := Lh (fun x y w hx => width_any (hF.2.1.1.ext hx) x y)
 obtain ⟨a1, a2, a3, a4, a5, a6, a7, a8, m1, m2, m3, m4, m5, m6, n7, m7, m8, hf⟩ := hF.form
 obtain ⟨rfl, hnm, hhs, hmd, hrs, has, hts, hss, hct, hdp, l1, l2, l3, l4, l5, l6, l7, l8⟩ := hf
 dsimp only [Pg.PV.val] at HV HW ⊢
 obtain ⟨R, hR⟩ : ∃ z, z = Tj.wids F t := ⟨_, rfl⟩
 rw [← hR]
 unfold Tj.wids at hR
 clear hnm hhs hmd hrs has hss hct hdp hF
 have bx := aH W (.cells (Yq0 F a1 m1 a2 m2 a3 m3 a4 m4 a5 m5 a6 m6 a7 m7 n7 a8 m8) 31)
 have k0 := alw (cQ 0 bx)
 have k1 := alw (cQ 1 bx)
 have k2 := alw (cQ 2 bx)
 have k3 := alw (cQ 3 bx)
 have k4 := alw (cQ 4 bx)
 have k5 := alw (cQ 5 bx)
 have k6 := alw (cQ 6 bx)
 have k7 := alw (cQ 7 bx)
 have k8 := alw (cQ 8 bx)
 clear bx
 by_cases h0 : Tj.tabI F t = 0
 ·obtain ⟨x, hat, hx0, htA⟩ := Tj.tab_of h0
  obtain ⟨ht0, ht1, hq⟩ := Tj.at_get hat
  obtain ⟨q, rfl⟩ := Int.eq_ofNat_of_zero_le ht0
  rw [Int.toNat_natCast] at hq
  obtain ⟨hk6, ha16, _⟩ := Tj.tab_ks hx0
  rw [bT h0] at HV
  obtain ⟨tb, tq, rfl, _, _⟩ := Rows.at hts (by omega)
  obtain ⟨ka, kc, aa, cc, va, vc, hnm2, hbb, hks, hac, har, g0, g1, g2, g3, g4, g5⟩ := tabs_at hts q x hq rfl
  have y0 := alw g0
  have y1 := alw g1
  have y2 := alw g2
  have y3 := alw g3
  have y4 := alw g4
  have y5 := alw g5
  have HKS := Lh hks
  have HAC := Lh hac
  clear hts hat hnm2 hbb hks hac har g0 g1 g2 g3 g4 g5
  rw [if_pos h0, htA] at hR
  have HE := Lh hR
  clear hR h0 htA
  go_enter Tryz.func171, Tryz.ntmps171
  go_wp2_with fail
  refine via (HV.out _ grows) fun w3 x3 s3 => ?_
  go_wp2_with fail
  go_loopw [5, 19] (fun o c wr => ∃ k : Nat, k ≤ x.ks.length ∧ c = .int .i64 k ∧ ∃ oo co, o = .slice oo k co ∧ Hid (Ext (W.alloc (.cells (Yq3 F a1 m1 a2 m2 a3 m3 a4 m4 tb tq m5 a6 m6 a7 m7 n7 a8 m8) 31)) wr ∧ wr.ownsRow (W.heap.size + 1) 3 1 o k (i64s ((x.ks.take k).map (Tj.kwid F))))) (fun _ c _ => x.ks.length - (intOf c).toNat)
  case atStart => exact ⟨0, Nat.zero_le _, rfl, _, _, rfl, Lh ⟨grows, World.ownsRow_nil _ _ _ _⟩⟩
  case round =>
   obtain ⟨k, hk, rfl, oo, co, rfl, HZ⟩ := hrel
   have sx : Step (W.alloc (.cells (Yq3 F a1 m1 a2 m2 a3 m3 a4 m4 tb tq m5 a6 m6 a7 m7 n7 a8 m8) 31)) wr := ⟨HZ.out.1⟩
   by_cases hlt : k < x.ks.length
   ·obtain ⟨⟨x1, x2, x3⟩, hx⟩ : ∃ y, x.ks[k]? = some y := ⟨_, gE hlt⟩
    obtain ⟨kb, ko, rfl, _, _⟩ := Rows.at HKS.out (by omega)
    obtain ⟨g0, g1, g2⟩ := keys_at HKS.out k _ hx rfl
    dsimp only at g0 g1 g2
    have v0 := alw g0
    have v1 := alw g1
    have v2 := alw g2
    have HX := Lh hx
    have bx := aH wr (.cells #[.int .i64 x1, .int .i64 x2, .int .i64 x3] 186)
    have qk0 := alw (cQ 0 bx)
    have qk1 := alw (cQ 1 bx)
    have qk2 := alw (cQ 2 bx)
    clear bx
    obtain ⟨wd, hwd⟩ : ∃ z, z = Pg.wid F.P x1 x2 := ⟨_, rfl⟩
    have HC := Lh (HW.out x1 x2)
    rw [← hwd] at HC
    have hsn : (x.ks.take (k + 1)).map (Tj.kwid F) = (x.ks.take k).map (Tj.kwid F) ++ [wd] := by
     rw [List.take_add_one, hx, hwd]; simp; rfl
    have HSN := Lh hsn
    have hle : W.heap.size + 1 ≤ wr.heap.size := by have h := HZ.out.1.le; rw [szA] at h; exact h
    clear hx g0 g1 g2 hwd hsn
    go_wp2_with fail
    refine via (HC.out _ grows) fun w7 x7 s7 => ?_
    have hle7 := x7.le
    simp only [szA] at hle7
    have HS1 := Lh (src_one w7 (.int .i64 wd) 3 rfl)
    have HO1 := Lh (own_now HZ.out.2 (w := w7.alloc (.cells #[.int .i64 wd] 3)))
    go_wp2_with (at_builtin; refine wpList_append_fresh rfl (.tmp 23) (.tmp 28) 29 rfl (W.heap.size + 1) 3 (.int .i64 0) 1 8 Tryz.underlying29 info_i64 rfl (by decide) _ k (i64s ((x.ks.take k).map (Tj.kwid F))) rfl HO1.out _ 1 [.int .i64 wd] rfl HS1.out ?d1 ?d2 ?d3 ?_)
    case d1 => unfold maxLen; omega
    case d2 => omega
    case d3 => (try simp); omega
    intro v' w' hown hgr _
    have hx3 : Ext (W.alloc (.cells (Yq3 F a1 m1 a2 m2 a3 m3 a4 m4 tb tq m5 a6 m6 a7 m7 n7 a8 m8) 31)) w' := (grows (a := (W.alloc (.cells (Yq3 F a1 m1 a2 m2 a3 m3 a4 m4 tb tq m5 a6 m6 a7 m7 n7 a8 m8) 31))) (b := w7.alloc (.cells #[.int .i64 wd] 3))).mod (grown_mod hgr) (fun q hq => by rw [szA]; exact (HO1.out.lt q hq.symm).1)
    have HX3 := Lh hx3
    obtain ⟨o3, c3, rfl⟩ := own_slice hown
    have HA3 := Lh hown
    clear hgr hown hx3
    go_wp2_with fail
    go_roundw
    case rel => exact ⟨k + 1, by omega, by go_num, o3, c3, rfl, Lh ⟨HX3.out, by rw [HSN.out]; simpa [i64s] using HA3.out⟩⟩
    case measure => simp [intOf]; omega
   ·obtain rfl : k = x.ks.length := by omega
    go_wp2_with fail
    go_ret
    refine ⟨_, rfl, grows, ?_⟩
    have h := HZ.out.2
    rw [List.take_length, ← HE.out] at h
    have hl : R.length = x.ks.length := by rw [HE.out, List.length_map]
    rw [← hl] at h
    exact ⟨by rw [← hl]; exact own_src h (i64s_one _), by rw [hl]; unfold maxLen; omega⟩
 ·rw [if_neg h0] at hR
  have hv : (Tj.tabI F t == 0) = false := bF h0
  rw [hv] at HV
  have HE := Lh hR
  clear hR h0 hv hts
  go_enter Tryz.func171, Tryz.ntmps171
  go_wp2_with fail
  refine via (HV.out _ grows) fun w3 x3 s3 => ?_
  go_wp2_with fail
  go_ret
  refine ⟨_, rfl, grows, ?_⟩
  rw [HE.out]
  exact ⟨⟨rfl, by simp, .inl ⟨rfl, rfl⟩⟩, Nat.zero_le _⟩
theorem tkind_any {W : World} {p : Pg.PV} {F : Tj.FP} (hF : Tj.IsF W p F) (t : Int) : Calls Tryz.prog 173 #[p.val, .int .i64 t] W (Rets W (.int .i64 (Tj.kind F t))) := by
 have HF := Lh hF
 have HV := Lh (fun (w : World) (hx : Ext W w) => tvalid_any (hF.ext hx) t)
 have HW : Hid (∀ (x y : Int) w, Ext W w → Calls Tryz.prog 165 #[p.val, .agg #[.int .i64 x, .int .i64 y]] w (Rets w (.int .i64 (Pg.wid F.P x y)))) := Lh (fun x y w hx => width_any (hF.2.1.1.ext hx) x y)
 obtain ⟨a1, a2, a3, a4, a5, a6, a7, a8, m1, m2, m3, m4, m5, m6, n7, m7, m8, hf⟩ := hF.form
 obtain ⟨rfl, hnm, hhs, hmd, hrs, has, hts, hss, hct, hdp, l1, l2, l3, l4, l5, l6, l7, l8⟩ := hf
 dsimp only [Pg.PV.val] at HV HW ⊢
 obtain ⟨R, hR⟩ : ∃ z, z = Tj.kind F t := ⟨_, rfl⟩
 rw [← hR]
 unfold Tj.kind at hR
 clear hnm hhs hmd hrs has hss hct hdp hF
 have bx := aH W (.cells (Yq0 F a1 m1 a2 m2 a3 m3 a4 m4 a5 m5 a6 m6 a7 m7 n7 a8 m8) 31)
 have k0 := alw (cQ 0 bx)
 have k1 := alw (cQ 1 bx)
 have k2 := alw (cQ 2 bx)
 have k3 := alw (cQ 3 bx)
 have k4 := alw (cQ 4 bx)
 have k5 := alw (cQ 5 bx)
 have k6 := alw (cQ 6 bx)
 have k7 := alw (cQ 7 bx)
 have k8 := alw (cQ 8 bx)
 clear bx
 clear HW
 by_cases h0 : Tj.tabI F t = 0
 ·obtain ⟨x, hat, hx0, htA⟩ := Tj.tab_of h0
  obtain ⟨ht0, ht1, hq⟩ := Tj.at_get hat
  obtain ⟨q, rfl⟩ := Int.eq_ofNat_of_zero_le ht0
  rw [Int.toNat_natCast] at hq
  obtain ⟨hk6, ha16, _⟩ := Tj.tab_ks hx0
  rw [bT h0] at HV
  obtain ⟨tb, tq, rfl, _, _⟩ := Rows.at hts (by omega)
  obtain ⟨ka, kc, aa, cc, va, vc, hnm2, hbb, hks, hac, har, g0, g1, g2, g3, g4, g5⟩ := tabs_at hts q x hq rfl
  have y0 := alw g0
  have y1 := alw g1
  have y2 := alw g2
  have y3 := alw g3
  have y4 := alw g4
  have y5 := alw g5
  have HKS := Lh hks
  have HAC := Lh hac
  clear hts hat hnm2 hbb hks hac har g0 g1 g2 g3 g4 g5
  rw [if_pos h0, htA] at hR
  have HE := Lh hR
  clear hR h0 htA
  go_enter Tryz.func173, Tryz.ntmps173
  go_wp2_with fail
  refine via (HV.out _ grows) fun w3 x3 s3 => ?_
  go_wp2_with fail
  go_loopw [5, 19] (fun o c wr => ∃ k : Nat, k ≤ x.ks.length ∧ c = .int .i64 k ∧ ∃ g : Int, o = .int .i64 g ∧ Hid (Ext (W.alloc (.cells (Yq3 F a1 m1 a2 m2 a3 m3 a4 m4 tb tq m5 a6 m6 a7 m7 n7 a8 m8) 31)) wr ∧ Tj.kindK g (x.ks.drop k) = Tj.kindK 1 x.ks)) (fun _ c _ => x.ks.length - (intOf c).toNat)
  case atStart => exact ⟨0, Nat.zero_le _, rfl, 1, rfl, Lh ⟨grows, rfl⟩⟩
  case round =>
   obtain ⟨k, hk, rfl, g, rfl, HZ⟩ := hrel
   have sx : Step (W.alloc (.cells (Yq3 F a1 m1 a2 m2 a3 m3 a4 m4 tb tq m5 a6 m6 a7 m7 n7 a8 m8) 31)) wr := ⟨HZ.out.1⟩
   by_cases hlt : k < x.ks.length
   ·obtain ⟨⟨x1, x2, x3⟩, hx⟩ : ∃ y, x.ks[k]? = some y := ⟨_, gE hlt⟩
    obtain ⟨kb, ko, rfl, _, _⟩ := Rows.at HKS.out (by omega)
    obtain ⟨g0, g1, g2⟩ := keys_at HKS.out k _ hx rfl
    dsimp only at g0 g1 g2
    have v0 := alw g0
    have v1 := alw g1
    have v2 := alw g2
    have HX := Lh hx
    have bx := aH wr (.cells #[.int .i64 x1, .int .i64 x2, .int .i64 x3] 186)
    have qk0 := alw (cQ 0 bx)
    have qk1 := alw (cQ 1 bx)
    have qk2 := alw (cQ 2 bx)
    clear bx
    have HKC := Lh (Tj.kindK_cons (c := g) hx)
    clear hx g0 g1 g2
    by_cases h3 : x3 = 3
    ·subst h3
     have HE2 : Hid (R = 3) := Lh (by rw [HE.out, ← HZ.out.2, HKC.out]; rfl)
     go_wp2_with fail
     go_ret
     exact ⟨ret_int (by rw [HE2.out]), grows⟩
    ·have e3 : (x3 == 3) = false := bF (by omega)
     by_cases h2 : x3 = 2
     ·subst h2
      have HN2 : Hid (Tj.kindK 2 (x.ks.drop (k + 1)) = Tj.kindK 1 x.ks) := Lh (by rw [← HZ.out.2, HKC.out]; rfl)
      clear h3 e3
      go_wp2_with fail
      go_roundw
      case rel => exact ⟨k + 1, by omega, by go_num, 2, rfl, Lh ⟨grows, HN2.out⟩⟩
      case measure => simp [intOf]; omega
     ·have e2 : (x3 == 2) = false := bF (by omega)
      have HN2 : Hid (Tj.kindK g (x.ks.drop (k + 1)) = Tj.kindK 1 x.ks) := Lh (by rw [← HZ.out.2, HKC.out, if_neg h3, if_neg h2])
      clear h3 h2
      go_wp2_with fail
      go_roundw
      case rel => exact ⟨k + 1, by omega, by go_num, g, rfl, Lh ⟨grows, HN2.out⟩⟩
      case measure => simp [intOf]; omega
   ·obtain rfl : k = x.ks.length := by omega
    have HE2 : Hid (R = g) := Lh (by have h := HZ.out.2; rw [List.drop_length] at h; rw [HE.out, ← h]; rfl)
    go_wp2_with fail
    go_ret
    exact ⟨ret_int (by rw [HE2.out]), grows⟩
 ·rw [if_neg h0] at hR
  have hv : (Tj.tabI F t == 0) = false := bF h0
  rw [hv] at HV
  have HE := Lh hR
  clear hR h0 hv hts
  go_enter Tryz.func173, Tryz.ntmps173
  go_wp2_with fail
  refine via (HV.out _ grows) fun w3 x3 s3 => ?_
  go_wp2_with fail
  go_ret
  exact ⟨ret_int (by rw [HE.out]), grows⟩
theorem tallow_any {W : World} {p : Pg.PV} {F : Tj.FP} (hF : Tj.IsF W p F) (t : Int) (a : Int) : Calls Tryz.prog 174 #[p.val, .int .i64 t, .int .i64 a] W (Rets W (.bool (Tj.allow F t a))) := by
 have HF := Lh hF
 have HV := Lh (fun (w : World) (hx : Ext W w) => tvalid_any (hF.ext hx) t)
 have HW : Hid (∀ (x y : Int) w, Ext W w → Calls Tryz.prog 165 #[p.val, .agg #[.int .i64 x, .int .i64 y]] w (Rets w (.int .i64 (Pg.wid F.P x y)))) := Lh (fun x y w hx => width_any (hF.2.1.1.ext hx) x y)
 obtain ⟨a1, a2, a3, a4, a5, a6, a7, a8, m1, m2, m3, m4, m5, m6, n7, m7, m8, hf⟩ := hF.form
 obtain ⟨rfl, hnm, hhs, hmd, hrs, has, hts, hss, hct, hdp, l1, l2, l3, l4, l5, l6, l7, l8⟩ := hf
 dsimp only [Pg.PV.val] at HV HW ⊢
 obtain ⟨R, hR⟩ : ∃ z, z = Tj.allow F t a := ⟨_, rfl⟩
 rw [← hR]
 unfold Tj.allow at hR
 clear hnm hhs hmd hrs has hss hct hdp hF
 have bx := aH W (.cells (Yq0 F a1 m1 a2 m2 a3 m3 a4 m4 a5 m5 a6 m6 a7 m7 n7 a8 m8) 31)
 have k0 := alw (cQ 0 bx)
 have k1 := alw (cQ 1 bx)
 have k2 := alw (cQ 2 bx)
 have k3 := alw (cQ 3 bx)
 have k4 := alw (cQ 4 bx)
 have k5 := alw (cQ 5 bx)
 have k6 := alw (cQ 6 bx)
 have k7 := alw (cQ 7 bx)
 have k8 := alw (cQ 8 bx)
 clear bx
 clear HW
 by_cases h0 : Tj.tabI F t = 0
 ·obtain ⟨x, hat, hx0, htA⟩ := Tj.tab_of h0
  obtain ⟨ht0, ht1, hq⟩ := Tj.at_get hat
  obtain ⟨q, rfl⟩ := Int.eq_ofNat_of_zero_le ht0
  rw [Int.toNat_natCast] at hq
  obtain ⟨hk6, ha16, _⟩ := Tj.tab_ks hx0
  rw [bT h0] at HV
  obtain ⟨tb, tq, rfl, _, _⟩ := Rows.at hts (by omega)
  obtain ⟨ka, kc, aa, cc, va, vc, hnm2, hbb, hks, hac, har, g0, g1, g2, g3, g4, g5⟩ := tabs_at hts q x hq rfl
  have y0 := alw g0
  have y1 := alw g1
  have y2 := alw g2
  have y3 := alw g3
  have y4 := alw g4
  have y5 := alw g5
  have HKS := Lh hks
  have HAC := Lh hac
  clear hts hat hnm2 hbb hks hac har g0 g1 g2 g3 g4 g5
  rw [if_pos h0, htA] at hR
  have HE := Lh hR
  have hacl : x.ac.length ≤ 9223372036854775807 := by omega
  clear hR h0 htA
  go_enter Tryz.func174, Tryz.ntmps174
  go_wp2_with fail
  refine via (HV.out _ grows) fun w3 x3 s3 => ?_
  go_wp2_with fail
  go_loopw [20] (fun c wr => ∃ k : Nat, k ≤ x.ac.length ∧ c = .int .i64 k ∧ Hid (Ext (W.alloc (.cells (Yq3 F a1 m1 a2 m2 a3 m3 a4 m4 tb tq m5 a6 m6 a7 m7 n7 a8 m8) 31)) wr ∧ ∀ j, j < k → (x.ac.getD j 0 == a) = false)) (fun c _ => x.ac.length - (intOf c).toNat)
  case atStart => exact ⟨0, Nat.zero_le _, rfl, Lh ⟨grows, by intro j hj; omega⟩⟩
  case round =>
   obtain ⟨k, hk, rfl, HZ⟩ := hrel
   have sx : Step (W.alloc (.cells (Yq3 F a1 m1 a2 m2 a3 m3 a4 m4 tb tq m5 a6 m6 a7 m7 n7 a8 m8) 31)) wr := ⟨HZ.out.1⟩
   by_cases hlt : k < x.ac.length
   ·obtain ⟨y, hx⟩ : ∃ y, x.ac[k]? = some y := ⟨_, gE hlt⟩
    obtain ⟨b, o, rfl, hc⟩ := ns_at HAC.out.1 (by omega)
    have v0 := hc k y hx
    have hg : x.ac.getD k 0 = y := by rw [List.getD_eq_getElem?_getD, hx]; rfl
    have HG := Lh hg
    clear hx hc hg
    by_cases hy : y = a
    ·have z1 : (y == a) = true := bT hy
     have HE2 : Hid (R = true) := Lh (by
      have := Dp.any_take_yes (l := x.ac) (k := x.ac.length) (j := k) (x := a) (by rw [HG.out]; exact z1) hlt (Nat.le_refl _)
      rw [List.take_length] at this
      rw [HE.out, this])
     clear hy
     go_wp2_with fail
     go_ret
     exact ⟨ret_bool (by rw [HE2.out]), grows⟩
    ·have z1 : (y == a) = false := bF hy
     have HY := Lh z1
     clear hy
     go_wp2_with fail
     go_roundw
     case rel =>
      refine ⟨k + 1, by omega, by go_num, Lh ⟨grows, fun j hj => ?_⟩⟩
      rcases Nat.lt_or_ge j k with h1 | h1
      ·exact HZ.out.2 j h1
      ·obtain rfl : j = k := by omega
       rw [HG.out]; exact HY.out
     case measure => simp [intOf]; omega
   ·obtain rfl : k = x.ac.length := by omega
    have HE2 : Hid (R = false) := Lh (by
     have := Dp.any_take_no (l := x.ac) (k := x.ac.length) (x := a) HZ.out.2 (Nat.le_refl _)
     rw [List.take_length] at this
     rw [HE.out, this])
    go_wp2_with fail
    go_ret
    exact ⟨ret_bool (by rw [HE2.out]), grows⟩
 ·rw [if_neg h0] at hR
  have hv : (Tj.tabI F t == 0) = false := bF h0
  rw [hv] at HV
  have HE := Lh hR
  clear hR h0 hv hts
  go_enter Tryz.func174, Tryz.ntmps174
  go_wp2_with fail
  refine via (HV.out _ grows) fun w3 x3 s3 => ?_
  go_wp2_with fail
  go_ret
  exact ⟨ret_bool (by rw [HE.out]), grows⟩
/-- what PrefixLen returns -/
theorem plen_or2 (m w : Int) : (∃ n : Nat, Bv.ok w = true ∧ n ≤ w ∧ Bv.pmask n w = m ∧ ∀ j : Nat, j < n → Bv.pmask j w ≠ m) ∨ (Bv.ok w = true → ∀ j : Nat, j ≤ w → Bv.pmask j w ≠ m) := by
 by_cases h : Bv.ok w = true
 ·by_cases hx : ∃ n : Nat, n ≤ w ∧ Bv.pmask n w = m
  ·left
   have key : ∀ k : Nat, (∃ n : Nat, n ≤ k ∧ (n ≤ w ∧ Bv.pmask n w = m)) → ∃ n : Nat, n ≤ w ∧ Bv.pmask n w = m ∧ ∀ j : Nat, j < n → Bv.pmask j w ≠ m := by
    intro k
    induction k with
    | zero => rintro ⟨n, h0, h1, h2⟩; exact ⟨n, h1, h2, fun j hj => by omega⟩
    | succ k ih =>
     rintro ⟨n, h0, h1, h2⟩
     by_cases hs : ∃ n' : Nat, n' ≤ k ∧ (n' ≤ w ∧ Bv.pmask n' w = m)
     ·exact ih hs
     ·exact ⟨n, h1, h2, fun j hj e => hs ⟨j, by omega, by omega, e⟩⟩
   obtain ⟨n, h1, h2⟩ := hx
   obtain ⟨n, h1, h2, h3⟩ := key n ⟨n, Nat.le_refl _, h1, h2⟩
   exact ⟨n, h, h1, h2, h3⟩
  ·right; intro _ j hj e; exact hx ⟨j, hj, e⟩
 ·right; intro h'; exact absurd h' h
namespace Tj
structure KM where
 v : Int
 m : Int
structure Ent where
 ks : List KM
 pr : Int
 cl : Call
structure Rw where
 id : Int
 e : Ent
structure Cfg where
 rows : List (List Rw)
 nx : List Int
 df : List Call
 rg : List (List Int)
def KMR (_w : World) (cs : List Value) (d : KM) : Prop := cs = [.int .u32 d.v, .int .u32 d.m] ∧ U32 d.v ∧ U32 d.m
abbrev KMs (w : World) (v : Value) (l : List KM) : Prop := Rows w 2 KMR v l
theorem KMs.ext {w w' : World} {v : Value} {l : List KM} (h : KMs w v l) (hx : Ext w w') : KMs w' v l := Rows.ext h (fun _ _ h => h) hx
/-- an entry: its four values -/
def EntR (w : World) (cs : List Value) (d : Ent) : Prop := ∃ ka kc ga gc, cs = [.slice ka d.ks.length kc, .int .i64 d.pr, .int .i64 d.cl.a, .slice ga d.cl.ar.length gc] ∧ (B64 d.pr ∧ B64 d.cl.a) ∧ KMs w (.slice ka d.ks.length kc) d.ks ∧ Us w (.slice ga d.cl.ar.length gc) d.cl.ar
theorem EntR.ext {w w' : World} {cs : List Value} {d : Ent} (h : EntR w cs d) (hx : Ext w w') : EntR w' cs d := by
 obtain ⟨ka, kc, ga, gc, h1, h2, h3, h4⟩ := h; exact ⟨ka, kc, ga, gc, h1, h2, h3.ext hx, h4.ext hx⟩
def EntV (w : World) (v : Value) (d : Ent) : Prop := ∃ cs : List Value, v = .agg cs.toArray ∧ EntR w cs d
theorem EntV.ext {w w' : World} {v : Value} {d : Ent} (h : EntV w v d) (hx : Ext w w') : EntV w' v d := by
 obtain ⟨cs, h1, h2⟩ := h; exact ⟨cs, h1, h2.ext hx⟩
theorem EntV.form {w : World} {v : Value} {d : Ent} (h : EntV w v d) : ∃ ka kc ga gc, v = .agg #[.slice ka d.ks.length kc, .int .i64 d.pr, .int .i64 d.cl.a, .slice ga d.cl.ar.length gc] ∧ (B64 d.pr ∧ B64 d.cl.a) ∧ KMs w (.slice ka d.ks.length kc) d.ks ∧ Us w (.slice ga d.cl.ar.length gc) d.cl.ar := by
 obtain ⟨cs, rfl, ka, kc, ga, gc, rfl, h⟩ := h; exact ⟨ka, kc, ga, gc, rfl, h⟩
def RwR (w : World) (cs : List Value) (d : Rw) : Prop := ∃ es, cs = .int .i64 d.id :: es ∧ B64 d.id ∧ EntR w es d.e
theorem RwR.ext {w w' : World} {cs : List Value} {d : Rw} (h : RwR w cs d) (hx : Ext w w') : RwR w' cs d := by
 obtain ⟨es, h1, h2, h3⟩ := h; exact ⟨es, h1, h2, h3.ext hx⟩
abbrev Rws (w : World) (v : Value) (l : List Rw) : Prop := Rows w 5 RwR v l
theorem Rws.ext {w w' : World} {v : Value} {l : List Rw} (h : Rws w v l) (hx : Ext w w') : Rws w' v l := Rows.ext h (fun _ _ h => h.ext hx) hx
def RwsR (w : World) (cs : List Value) (l : List Rw) : Prop := ∃ v, cs = [v] ∧ Rws w v l
theorem RwsR.ext {w w' : World} {cs : List Value} {l : List Rw} (h : RwsR w cs l) (hx : Ext w w') : RwsR w' cs l := by
 obtain ⟨v, h1, h2⟩ := h; exact ⟨v, h1, h2.ext hx⟩
/-- a configuration: its four values -/
def CfgV (w : World) (v : Value) (C : Cfg) : Prop := ∃ v0 v1 v2 v3, v = .agg #[v0, v1, v2, v3] ∧ Rows w 1 RwsR v0 C.rows ∧ Is w v1 C.nx ∧ Cls w v2 C.df ∧ Rows w 1 RowR v3 C.rg
theorem CfgV.ext {w w' : World} {v : Value} {C : Cfg} (h : CfgV w v C) (hx : Ext w w') : CfgV w' v C := by
 obtain ⟨v0, v1, v2, v3, h0, h1, h2, h3, h4⟩ := h
 exact ⟨v0, v1, v2, v3, h0, h1.ext (fun _ _ h => h.ext hx) hx, h2.ext hx, h3.ext hx, h4.ext (fun _ _ h => h.ext hx) hx⟩
/-- the first n of the mask's bits are set, the others not, for some n -/
def plB (m w : Int) : Bool := Bv.ok w && (List.range (w.toNat + 1)).any fun n => Bv.pmask n w == m
theorem plB_or (m w : Int) : (plB m w = true ∧ ∃ n : Nat, Bv.ok w = true ∧ n ≤ w ∧ Bv.pmask n w = m ∧ ∀ j : Nat, j < n → Bv.pmask j w ≠ m) ∨ (plB m w = false ∧ (Bv.ok w = true → ∀ j : Nat, j ≤ w → Bv.pmask j w ≠ m)) := by
 rcases plen_or2 m w with ⟨n, h1, h2, h3, h4⟩ | h
 ·refine .inl ⟨?_, n, h1, h2, h3, h4⟩
  unfold plB
  rw [h1, Bool.true_and, List.any_eq_true]
  exact ⟨n, List.mem_range.2 (by omega), bT h3⟩
 ·refine .inr ⟨?_, h⟩
  unfold plB
  cases hk : Bv.ok w with
  | false => rfl
  | true =>
   rw [Bool.true_and, ← Bool.not_eq_true, List.any_eq_true]
   rintro ⟨n, hn, he⟩
   have := Bv.ok_iff.1 hk
   exact h hk n (by have := List.mem_range.1 hn; omega) (beq_iff_eq.1 he)
/-- what is wrong with a key of an entry -/
def kmE (k : KM) (kind w : Int) : Int :=
 if Bv.fits k.v w && Bv.fits k.m w then (if bits BinOp.andNot IntKind.u32 k.v k.m ≠ 0 then 5 else if kind = 1 ∧ k.m ≠ Bv.mask w then 11 else if kind = 2 ∧ plB k.m w = false then 11 else 0) else 9
def sameK (a b : Ent) : Bool := decide (a.pr = b.pr) && decide (a.ks.length = b.ks.length) && (List.range a.ks.length).all fun i => decide ((a.ks.getD i ⟨0, 0⟩).v = (b.ks.getD i ⟨0, 0⟩).v) && decide ((a.ks.getD i ⟨0, 0⟩).m = (b.ks.getD i ⟨0, 0⟩).m)
end Tj
theorem plenB_any (m w : Int) (W : World) : Calls Tryz.prog 186 #[.int .u32 m, .int .i64 w] W fun e W' => ∃ n : Int, e = .returned (.tuple #[.int .i64 n, .bool (Tj.plB m w)]) ∧ Ext W W' := by
 rcases Tj.plB_or m w with ⟨h0, n, h1, h2, h3, h4⟩ | ⟨h0, h⟩
 ·rw [h0]; exact (plen_hit m w h1 n h2 h3 h4 W).mono fun e w' h => ⟨_, h.1, h.2⟩
 ·rw [h0]; exact (plen_miss m w h W).mono fun e w' h => ⟨_, h.1, h.2⟩
theorem kms_at {w : World} {b o n c : Nat} {l : List Tj.KM} {oa : Option Addr} (h : Tj.KMs w (.slice oa n c) l) (k : Nat) (x : Tj.KM) (hk : l[k]? = some x) (hoa : oa = some ⟨b, o, none⟩) :
 w.cell? ⟨b, o + k * 2, none⟩ = some (.int .u32 x.v) ∧ w.cell? ⟨b, o + k * 2 + 1, none⟩ = some (.int .u32 x.m) ∧ U32 x.v ∧ U32 x.m := by
 obtain ⟨b', o', e, _, h4⟩ := h.at (by have := (List.getElem?_eq_some_iff.1 hk).1; omega)
 rw [hoa] at e
 simp only [Option.some.injEq, Addr.mk.injEq, and_true] at e
 obtain ⟨rfl, rfl⟩ := e
 obtain ⟨cs, _, ⟨rfl, h1, h2⟩, hc⟩ := h4 k x hk
 exact ⟨hc 0 _ rfl, hc 1 _ rfl, h1, h2⟩
theorem ckey_any (km : Tj.KM) (hu : U32 km.v ∧ U32 km.m) (kd w : Int) (W : World) : Calls Tryz.prog 172 #[.agg #[.int .u32 km.v, .int .u32 km.m], .int .i64 kd, .int .i64 w] W (Rets W (.int .i64 (Tj.kmE km kd w))) := by
 obtain ⟨v, m⟩ := km
 dsimp only at hu ⊢
 obtain ⟨R, hR⟩ : ∃ z, z = Tj.kmE ⟨v, m⟩ kd w := ⟨_, rfl⟩
 rw [← hR]
 unfold Tj.kmE at hR
 dsimp only at hR
 obtain ⟨fv, hfv⟩ : ∃ z, z = Bv.fits v w := ⟨_, rfl⟩
 obtain ⟨fm, hfm⟩ : ∃ z, z = Bv.fits m w := ⟨_, rfl⟩
 have HF2 : Hid (∀ W, Calls Tryz.prog 184 #[.int .u32 v, .int .i64 w] W (Rets W (.bool fv))) := Lh (fun W => by have h := fits_any v w W; rw [← hfv] at h; exact h)
 have HF3 : Hid (∀ W, Calls Tryz.prog 184 #[.int .u32 m, .int .i64 w] W (Rets W (.bool fm))) := Lh (fun W => by have h := fits_any m w W; rw [← hfm] at h; exact h)
 rw [← hfv, ← hfm] at hR
 obtain ⟨pb, hpb⟩ : ∃ z, z = Tj.plB m w := ⟨_, rfl⟩
 have HPL : Hid (∀ W, Calls Tryz.prog 186 #[.int .u32 m, .int .i64 w] W fun e W' => ∃ n : Int, e = .returned (.tuple #[.int .i64 n, .bool pb]) ∧ Ext W W') := Lh (fun W => by have h := plenB_any m w W; rw [← hpb] at h; exact h)
 rw [← hpb] at hR
 clear hfv hfm hpb
 have bx := aH W (.cells #[.int .u32 v, .int .u32 m] 209)
 have k0 := alw (cQ 0 bx)
 have k1 := alw (cQ 1 bx)
 clear bx
 cases fv with
 | false =>
  have HE : Hid (R = 9) := Lh (by rw [hR]; rfl)
  clear hR
  go_enter Tryz.func172, Tryz.ntmps172
  go_wp2_with fail
  refine via (HF2.out _) fun w2 x2 s2 => ?_
  go_wp2_with fail
  go_ret
  exact ⟨ret_int (by rw [HE.out]), grows⟩
 | true =>
  cases fm with
  | false =>
   have HE : Hid (R = 9) := Lh (by rw [hR]; rfl)
   clear hR
   go_enter Tryz.func172, Tryz.ntmps172
   go_wp2_with fail
   refine via (HF2.out _) fun w2 x2 s2 => ?_
   go_wp2_with fail
   refine via (HF3.out _) fun w3 x3 s3 => ?_
   go_wp2_with fail
   go_ret
   exact ⟨ret_int (by rw [HE.out]), grows⟩
  | true =>
   rw [if_pos (by rfl)] at hR
   by_cases h5 : bits BinOp.andNot IntKind.u32 v m = 0
   ·rw [if_neg (by simpa using h5)] at hR
    have z5 : (bits BinOp.andNot IntKind.u32 v m != 0) = false := by rw [h5]; rfl
    by_cases k1 : kd = 1
    ·subst k1
     by_cases hm : m = Bv.mask w
     ·have HE : Hid (R = 0) := Lh (by rw [hR, if_neg (fun h => h.2 hm), if_neg (fun h => absurd h.1 (by decide))])
      have z6 : (m != Bv.mask w) = false := by rw [← hm]; exact bne_self_eq_false m
      have Z6 := Lh z6
      clear hR hm h5
      go_enter Tryz.func172, Tryz.ntmps172
      go_wp2_with fail
      refine via (HF2.out _) fun w2 x2 s2 => ?_
      go_wp2_with fail
      refine via (HF3.out _) fun w3 x3 s3 => ?_
      go_wp2_with fail
      refine wp_region_later (W := (W.alloc (.cells #[.int .u32 v, .int .u32 m] 209))) (by kernel_rfl) (by kernel_rfl) grows ?_
      repeat (go_big_quiet_step (first | (go_at_call 128; exact Rets.later_at (mask_any _ _)) | fail))
      refine wpQuiet_nil ?_
      intro w9 hx9
      have s9 := Sm hx9
      go_wp2_with fail
      go_ret
      exact ⟨ret_int (by rw [HE.out]), grows⟩
     ·have HE : Hid (R = 11) := Lh (by rw [hR, if_pos ⟨rfl, hm⟩])
      have z6 : (m != Bv.mask w) = true := nT hm
      clear hR hm h5
      go_enter Tryz.func172, Tryz.ntmps172
      go_wp2_with fail
      refine via (HF2.out _) fun w2 x2 s2 => ?_
      go_wp2_with fail
      refine via (HF3.out _) fun w3 x3 s3 => ?_
      go_wp2_with fail
      refine wp_region_later (W := (W.alloc (.cells #[.int .u32 v, .int .u32 m] 209))) (by kernel_rfl) (by kernel_rfl) grows ?_
      repeat (go_big_quiet_step (first | (go_at_call 128; exact Rets.later_at (mask_any _ _)) | fail))
      refine wpQuiet_nil ?_
      intro w9 hx9
      have s9 := Sm hx9
      go_wp2_with fail
      go_ret
      exact ⟨ret_int (by rw [HE.out]), grows⟩
    ·have e1 : (kd == 1) = false := bF (by omega)
     rw [if_neg (fun h => k1 h.1)] at hR
     by_cases k2 : kd = 2
     ·subst k2
      cases pb with
      | false =>
       have HE : Hid (R = 11) := Lh (by rw [hR, if_pos ⟨rfl, rfl⟩])
       clear hR h5 k1 e1
       go_enter Tryz.func172, Tryz.ntmps172
       go_wp2_with fail
       refine via (HF2.out _) fun w2 x2 s2 => ?_
       go_wp2_with fail
       refine via (HF3.out _) fun w3 x3 s3 => ?_
       go_wp2_with fail
       refine wp_region_later (W := (W.alloc (.cells #[.int .u32 v, .int .u32 m] 209))) (by kernel_rfl) (by kernel_rfl) grows ?_
       repeat (go_big_quiet_step (fail))
       refine wpQuiet_nil ?_
       intro w9 hx9
       have s9 := Sm hx9
       go_wp2_with fail
       refine (HPL.out _).mono ?_
       rintro e w8 ⟨n8, rfl, x8⟩
       have s8 := Sm x8
       go_wp2_with fail
       go_ret
       exact ⟨ret_int (by rw [HE.out]), grows⟩
      | true =>
       have HE : Hid (R = 0) := Lh (by rw [hR, if_neg (by simp)])
       clear hR h5 k1 e1
       go_enter Tryz.func172, Tryz.ntmps172
       go_wp2_with fail
       refine via (HF2.out _) fun w2 x2 s2 => ?_
       go_wp2_with fail
       refine via (HF3.out _) fun w3 x3 s3 => ?_
       go_wp2_with fail
       refine wp_region_later (W := (W.alloc (.cells #[.int .u32 v, .int .u32 m] 209))) (by kernel_rfl) (by kernel_rfl) grows ?_
       repeat (go_big_quiet_step (fail))
       refine wpQuiet_nil ?_
       intro w9 hx9
       have s9 := Sm hx9
       go_wp2_with fail
       refine (HPL.out _).mono ?_
       rintro e w8 ⟨n8, rfl, x8⟩
       have s8 := Sm x8
       go_wp2_with fail
       go_ret
       exact ⟨ret_int (by rw [HE.out]), grows⟩
     ·have HE : Hid (R = 0) := Lh (by rw [hR, if_neg (fun h => k2 h.1)])
      have e2 : (kd == 2) = false := bF (by omega)
      clear hR h5 k1 k2
      go_enter Tryz.func172, Tryz.ntmps172
      go_wp2_with fail
      refine via (HF2.out _) fun w2 x2 s2 => ?_
      go_wp2_with fail
      refine via (HF3.out _) fun w3 x3 s3 => ?_
      go_wp2_with fail
      refine wp_region_later (W := (W.alloc (.cells #[.int .u32 v, .int .u32 m] 209))) (by kernel_rfl) (by kernel_rfl) grows ?_
      repeat (go_big_quiet_step (fail))
      refine wpQuiet_nil ?_
      intro w9 hx9
      have s9 := Sm hx9
      go_wp2_with fail
      go_ret
      exact ⟨ret_int (by rw [HE.out]), grows⟩
   ·have HE : Hid (R = 5) := Lh (by rw [hR, if_pos h5])
    have z5 : (bits BinOp.andNot IntKind.u32 v m != 0) = true := nT h5
    clear hR h5
    go_enter Tryz.func172, Tryz.ntmps172
    go_wp2_with fail
    refine via (HF2.out _) fun w2 x2 s2 => ?_
    go_wp2_with fail
    refine via (HF3.out _) fun w3 x3 s3 => ?_
    go_wp2_with fail
    go_ret
    exact ⟨ret_int (by rw [HE.out]), grows⟩
namespace Tj
theorem sameK_no {a b : Ent} {j : Nat} {x y : KM} (hx : a.ks[j]? = some x) (hy : b.ks[j]? = some y) (h : x.v ≠ y.v ∨ x.m ≠ y.m) : sameK a b = false := by
 unfold sameK
 rw [Pg.all_no (k := j) (List.getElem?_eq_some_iff.1 hx).1 (by
  rw [List.getD_eq_getElem?_getD, List.getD_eq_getElem?_getD, hx, hy]
  show (decide (x.v = y.v) && decide (x.m = y.m)) = false
  rcases h with h | h
  ·rw [dF h]; rfl
  ·rw [dF h, Bool.and_false])]
 simp
theorem sameK_yes {a b : Ent} (hp : a.pr = b.pr) (hl : a.ks.length = b.ks.length) (h : ∀ (j : Nat) (x y : KM), j < a.ks.length → a.ks[j]? = some x → b.ks[j]? = some y → x.v = y.v ∧ x.m = y.m) : sameK a b = true := by
 unfold sameK
 rw [dTt hp, dTt hl, Pg.all_yes]
 ·rfl
 ·intro j hj
  have hx := gE hj
  have hy := gE (l := b.ks) (i := j) (by omega)
  obtain ⟨e1, e2⟩ := h j _ _ hj hx hy
  rw [List.getD_eq_getElem?_getD, List.getD_eq_getElem?_getD, hx, hy]
  rw [Option.getD_some, Option.getD_some, dTt e1, dTt e2]; rfl
end Tj
theorem samek_any {W : World} {a b : Tj.Ent} {av bv : Value} (ha : Tj.EntV W av a) (hb : Tj.EntV W bv b) : Calls Tryz.prog 122 #[av, bv] W (Rets W (.bool (Tj.sameK a b))) := by
 obtain ⟨ka, kc, kg, kh, rfl, _, hk1, hg1⟩ := ha.form
 obtain ⟨la, lc, lg, lh, rfl, _, hk2, hg2⟩ := hb.form
 obtain ⟨R, hR⟩ : ∃ z, z = Tj.sameK a b := ⟨_, rfl⟩
 rw [← hR]
 obtain ⟨k1, p1, c1, g1⟩ := a
 obtain ⟨k2, p2, c2, g2⟩ := b
 dsimp only at *
 obtain ⟨_, _, e0, hl1, hm1⟩ := hk1.slice
 simp only [Value.slice.injEq] at e0
 obtain ⟨rfl, _, rfl⟩ := e0
 unfold maxLen at hm1
 have HK1 := Lh hk1
 have HK2 := Lh hk2
 have bx := aH W (.cells #[.slice ka k1.length kc, .int .i64 p1, .int .i64 c1, .slice kg g1.length kh] 65)
 have j0 := alw (cQ 0 bx)
 have j1 := alw (cQ 1 bx)
 have j2 := alw (cQ 2 bx)
 have j3 := alw (cQ 3 bx)
 clear bx
 have bx := aH (W.alloc (.cells #[.slice ka k1.length kc, .int .i64 p1, .int .i64 c1, .slice kg g1.length kh] 65)) (.cells #[.slice la k2.length lc, .int .i64 p2, .int .i64 c2, .slice lg g2.length lh] 65)
 rw [szA] at bx
 have i0 := alw (cQ 0 bx)
 have i1 := alw (cQ 1 bx)
 have i2 := alw (cQ 2 bx)
 have i3 := alw (cQ 3 bx)
 clear bx
 clear ha hb hk1 hk2 hg1 hg2
 by_cases hp : p1 = p2
 ·have z1 : (p1 != p2) = false := by rw [hp]; exact bne_self_eq_false p2
  have HP := Lh hp
  by_cases hl : k1.length = k2.length
  ·have z2 : ((k1.length : Int) != (k2.length : Int)) = false := by rw [hl]; exact bne_self_eq_false _
   have HL := Lh hl
   have HR := Lh hR
   clear hp hl hR
   go_enter Tryz.func122, Tryz.ntmps122
   go_wp2_with fail
   go_loopw [24] (fun c wr => ∃ k : Nat, k ≤ k1.length ∧ c = .int .i64 k ∧ Hid (Ext ((W.alloc (.cells #[.slice ka k1.length kc, .int .i64 p1, .int .i64 c1, .slice kg g1.length kh] 65)).alloc (.cells #[.slice la k2.length lc, .int .i64 p2, .int .i64 c2, .slice lg g2.length lh] 65)) wr ∧ ∀ (j : Nat) (x y : Tj.KM), j < k → k1[j]? = some x → k2[j]? = some y → x.v = y.v ∧ x.m = y.m)) (fun c _ => k1.length - (intOf c).toNat)
   case atStart => exact ⟨0, Nat.zero_le _, rfl, Lh ⟨eR _, by intro j x y hj; omega⟩⟩
   case round =>
    obtain ⟨k, hk, rfl, HZ⟩ := hrel
    have sx : Step ((W.alloc (.cells #[.slice ka k1.length kc, .int .i64 p1, .int .i64 c1, .slice kg g1.length kh] 65)).alloc (.cells #[.slice la k2.length lc, .int .i64 p2, .int .i64 c2, .slice lg g2.length lh] 65)) wr := ⟨HZ.out.1⟩
    by_cases hlt : k < k1.length
    ·have hlt2 : k < k2.length := by rw [← HL.out]; exact hlt
     obtain ⟨⟨x1, x2⟩, hx⟩ : ∃ y, k1[k]? = some y := ⟨_, gE hlt⟩
     obtain ⟨⟨y1, y2⟩, hy⟩ : ∃ y, k2[k]? = some y := ⟨_, gE hlt2⟩
     obtain ⟨b1, o1, rfl, _, _⟩ := Rows.at HK1.out (by omega)
     obtain ⟨b2, o2, rfl, _, _⟩ := Rows.at HK2.out (by omega)
     obtain ⟨f0, f1, _⟩ := kms_at HK1.out k _ hx rfl
     obtain ⟨h0, h1, _⟩ := kms_at HK2.out k _ hy rfl
     dsimp only at f0 f1 h0 h1
     have u0 := alw f0
     have u1 := alw f1
     have v0 := alw h0
     have v1 := alw h1
     have HX := Lh hx
     have HY := Lh hy
     have bx := aH wr (.cells #[.int .u32 x1, .int .u32 x2] 209)
     have q0 := alw (cQ 0 bx)
     have q1 := alw (cQ 1 bx)
     clear bx
     clear f0 f1 h0 h1 hx hy
     by_cases hv : x1 = y1
     ·have w1 : (x1 == y1) = true := bT hv
      by_cases hm : x2 = y2
      ·have w2 : (x2 == y2) = true := bT hm
       have HV := Lh hv
       have HM := Lh hm
       clear hv hm
       go_wp2_with fail
       refine wp_region_later (W := (wr.alloc (.cells #[.int .u32 x1, .int .u32 x2] 209))) (by kernel_rfl) (by kernel_rfl) grows ?_
       repeat (go_big_quiet_step (fail))
       refine wpQuiet_nil ?_
       intro w9 hx9
       have s9 := Sm hx9
       go_wp2_with fail
       go_roundw
       case rel =>
        refine ⟨k + 1, by omega, by go_num, Lh ⟨grows, fun j x y hj h1 h2 => ?_⟩⟩
        rcases Nat.lt_or_ge j k with h3 | h3
        ·exact HZ.out.2 j x y h3 h1 h2
        ·obtain rfl : j = k := by omega
         rw [HX.out] at h1
         rw [HY.out] at h2
         obtain rfl := Option.some.inj h1
         obtain rfl := Option.some.inj h2
         exact ⟨HV.out, HM.out⟩
       case measure => simp [intOf]; omega
      ·have w2 : (x2 == y2) = false := bF hm
       have HE : Hid (R = false) := Lh (by rw [HR.out]; exact Tj.sameK_no HX.out HY.out (.inr hm))
       clear hv hm
       go_wp2_with fail
       refine wp_region_later (W := (wr.alloc (.cells #[.int .u32 x1, .int .u32 x2] 209))) (by kernel_rfl) (by kernel_rfl) grows ?_
       repeat (go_big_quiet_step (fail))
       refine wpQuiet_nil ?_
       intro w9 hx9
       have s9 := Sm hx9
       go_wp2_with fail
       go_ret
       exact ⟨ret_bool (by rw [HE.out]), grows⟩
     ·have w1 : (x1 == y1) = false := bF hv
      have HE : Hid (R = false) := Lh (by rw [HR.out]; exact Tj.sameK_no HX.out HY.out (.inl hv))
      clear hv
      go_wp2_with fail
      refine wp_region_later (W := (wr.alloc (.cells #[.int .u32 x1, .int .u32 x2] 209))) (by kernel_rfl) (by kernel_rfl) grows ?_
      repeat (go_big_quiet_step (fail))
      refine wpQuiet_nil ?_
      intro w9 hx9
      have s9 := Sm hx9
      go_wp2_with fail
      go_ret
      exact ⟨ret_bool (by rw [HE.out]), grows⟩
    ·obtain rfl : k = k1.length := by omega
     have HE : Hid (R = true) := Lh (by rw [HR.out]; exact Tj.sameK_yes HP.out HL.out HZ.out.2)
     go_wp2_with fail
     go_ret
     exact ⟨ret_bool (by rw [HE.out]), grows⟩
  ·have z2 : ((k1.length : Int) != (k2.length : Int)) = true := nT (by omega)
   have HE : Hid (R = false) := Lh (by rw [hR]; unfold Tj.sameK; rw [dF (p := k1.length = k2.length) hl]; simp)
   clear hp hl hR
   go_enter Tryz.func122, Tryz.ntmps122
   go_wp2_with fail
   go_ret
   exact ⟨ret_bool (by rw [HE.out]), grows⟩
 ·have z1 : (p1 != p2) = true := nT hp
  have HE : Hid (R = false) := Lh (by rw [hR]; unfold Tj.sameK; rw [dF (p := p1 = p2) hp]; simp)
  clear hp hR
  go_enter Tryz.func122, Tryz.ntmps122
  go_wp2_with fail
  go_ret
  exact ⟨ret_bool (by rw [HE.out]), grows⟩
end Go.Proofs.YthmokhkkdgnbhaaGreat
