/- Tables: checkKeys, checkActions, Check, walked. Tables: Check, valid, Widths, Kind, Allows, walked. Tables: Kind, Allows, walked. Control flow: Count, Nesting, walked. Units, plainly: the control flow laid flat. No condition. -/
import Derived.Test.YtkiafiaodockbaaGreatKqAE
set_option maxRecDepth 8000
set_option maxHeartbeats 16000000
namespace Go.Proofs.YtkiafiaodockbaaGreat
open Go.RowKit
open Go.Maps
open Go.WideMaps
theorem keys_at {w : World} {b o n c : Nat} {l : List Tj.Key} {oa : Option Addr} (h : Tj.Keys w (.slice oa n c) l) (k : Nat) (x : Tj.Key) (hk : l[k]? = some x) (hoa : oa = some ⟨b, o, none⟩) :
 w.cell? ⟨b, o + k * 3, none⟩ = some (.int .i64 x.h) ∧ w.cell? ⟨b, o + k * 3 + 1, none⟩ = some (.int .i64 x.f) ∧ w.cell? ⟨b, o + k * 3 + 2, none⟩ = some (.int .i64 x.k) := by
 obtain ⟨b', o', e, _, h4⟩ := h.at (by have := (List.getElem?_eq_some_iff.1 hk).1; omega)
 rw [hoa] at e
 simp only [Option.some.injEq, Addr.mk.injEq, and_true] at e
 obtain ⟨rfl, rfl⟩ := e
 obtain ⟨cs, _, ⟨rfl, _⟩, hc⟩ := h4 k x hk
 exact ⟨hc 0 _ rfl, hc 1 _ rfl, hc 2 _ rfl⟩
theorem tabs_at {w : World} {b o n c : Nat} {l : List Tj.Tab} {oa : Option Addr} (h : Tj.Tabs w (.slice oa n c) l) (k : Nat) (x : Tj.Tab) (hk : l[k]? = some x) (hoa : oa = some ⟨b, o, none⟩) :
 ∃ ka kc aa ac da dc, x.nm.size ≤ maxLen ∧ (Tj.B64 x.df.a ∧ Tj.B64 x.sz) ∧ Tj.Keys w (.slice ka x.ks.length kc) x.ks ∧ Tj.Is w (.slice aa x.ac.length ac) x.ac ∧ Tj.Us w (.slice da x.df.ar.length dc) x.df.ar ∧
  w.cell? ⟨b, o + k * 6, none⟩ = some (.string x.nm) ∧ w.cell? ⟨b, o + k * 6 + 1, none⟩ = some (.slice ka x.ks.length kc) ∧ w.cell? ⟨b, o + k * 6 + 2, none⟩ = some (.slice aa x.ac.length ac) ∧
  w.cell? ⟨b, o + k * 6 + 3, none⟩ = some (.int .i64 x.df.a) ∧ w.cell? ⟨b, o + k * 6 + 4, none⟩ = some (.slice da x.df.ar.length dc) ∧ w.cell? ⟨b, o + k * 6 + 5, none⟩ = some (.int .i64 x.sz) := by
 obtain ⟨b', o', e, _, h4⟩ := h.at (by have := (List.getElem?_eq_some_iff.1 hk).1; omega)
 rw [hoa] at e
 simp only [Option.some.injEq, Addr.mk.injEq, and_true] at e
 obtain ⟨rfl, rfl⟩ := e
 obtain ⟨cs, _, ⟨kv, av, dv, rfl, h1, h2, h3, h5, h6⟩, hc⟩ := h4 k x hk
 obtain ⟨ka, kc, rfl, _⟩ := h3.slice
 obtain ⟨aa, ac, rfl⟩ := ns_slice h5.1
 obtain ⟨da, dc, rfl⟩ := ns_slice h6.1
 exact ⟨ka, kc, aa, ac, da, dc, h1, h2, h3, h5, h6, hc 0 _ rfl, hc 1 _ rfl, hc 2 _ rfl, hc 3 _ rfl, hc 4 _ rfl, hc 5 _ rfl⟩
/-- a table as a value -/
abbrev Yq8 (t : Tj.Tab) (ka : Option Addr) (kc : Nat) (aa : Option Addr) (ac : Nat) (da : Option Addr) (dc : Nat) : Array Value := #[.string t.nm, .slice ka t.ks.length kc, .slice aa t.ac.length ac, .int .i64 t.df.a, .slice da t.df.ar.length dc, .int .i64 t.sz]
def TabV (w : World) (v : Value) (t : Tj.Tab) : Prop := ∃ ka kc aa ac da dc, v = .agg (Yq8 t ka kc aa ac da dc) ∧
 t.nm.size ≤ maxLen ∧ (Tj.B64 t.df.a ∧ Tj.B64 t.sz) ∧ Tj.Keys w (.slice ka t.ks.length kc) t.ks ∧ Tj.Is w (.slice aa t.ac.length ac) t.ac ∧ Tj.Us w (.slice da t.df.ar.length dc) t.df.ar
theorem TabV.ext {w w' : World} {v : Value} {t : Tj.Tab} (h : TabV w v t) (hx : Ext w w') : TabV w' v t := by
 obtain ⟨ka, kc, aa, ac, da, dc, h0, h1, h2, h3, h4, h5⟩ := h
 exact ⟨ka, kc, aa, ac, da, dc, h0, h1, h2, h3.ext hx, h4.ext hx, h5.ext hx⟩
theorem wf_b64 {x : Int} (h : Tj.B64 x) : (Lit.int .i64 x).wf = true := by
 obtain ⟨h1, h2⟩ := h
 show (decide (IntKind.min .i64 ≤ x) && decide (x ≤ IntKind.max .i64)) = true
 rw [Bool.and_eq_true, decide_eq_true_eq, decide_eq_true_eq]
 exact ⟨h1, h2⟩
/-- the integers of the first k places of l are in the map at B -/
def IntsM (w : World) (B : Nat) (l : List Int) (k : Nat) : Prop := ∃ D : DataW Unit, w.ownsMap Tryz.prog 3 (plainElem Tryz.prog 4) B k D ∧ ∀ s : Int, Tj.B64 s → D.atKey (.int .i64 s) (.lit (.bool false)) = .lit (.bool ((l.take k).any (· == s)))
theorem int_law : Keyed Tryz.prog 3 := int_keyed Tryz.underlying3
theorem IntsM.look {w : World} {B k : Nat} {l : List Int} (h : IntsM w B l k) {s : Int} (hs : Tj.B64 s) : (Instr.lookup 208 (.map (some B)) (.int .i64 s) false).run Tryz.prog w = .ok (.bool ((l.take k).any (· == s))) w := by
 obtain ⟨D, h1, h2⟩ := h
 obtain ⟨c, hr, hc⟩ := lookup_bool h1 int_law Tryz.underlying208 Tryz.underlying4 (zero_b w) (keyOf_int_mk Tryz.underlying3 (wf_b64 hs))
 rw [h2 s hs] at hc
 simp only [DataW.lit.injEq, Lit.bool.injEq] at hc
 rw [hr, hc]
theorem IntsM.put {w' : World} {B k : Nat} {l : List Int} {D : DataW Unit} {x : Int} (hx : l[k]? = some x) (hn : Tj.B64 x) (h2 : ∀ s : Int, Tj.B64 s → D.atKey (.int .i64 s) (.lit (.bool false)) = .lit (.bool ((l.take k).any (· == s)))) (hD : IsMap D)
 (h : w'.ownsMap Tryz.prog 3 (plainElem Tryz.prog 4) B (k + 1) (D.put (.int .i64 x) (.lit (.bool true)))) : IntsM w' B l (k + 1) := by
 refine ⟨_, h, fun s hs => ?_⟩
 have ht : l.take (k + 1) = l.take k ++ [x] := by rw [List.take_add_one, hx]; rfl
 rw [ht, List.any_append]
 by_cases e : s = x
 ·subst e
  rw [atKey_put_same hD (int_law.key (keyOf_int_mk Tryz.underlying3 (wf_b64 hn)))]
  simp
 ·have hne : (Lit.int .i64 s) ≠ .int .i64 x := fun h => e (by simpa using h)
  rw [atKey_put_other hne, h2 s hs]
  have : (x == s) = false := bF (fun h => e h.symm)
  simp [this]
theorem IntsM.new (w : World) (l : List Int) : IntsM (w.alloc (.map #[] 0)) w.heap.size l 0 :=
 ⟨.map [], World.ownsMap_made _ _ _ _, fun s _ => by simp; rfl⟩
namespace Tj
theorem lpms_next {ks : List Key} {k : Nat} {x : Key} (hx : ks[k]? = some x) : lpms (ks.take (k + 1)) = lpms (ks.take k) + (if x.k = 2 then 1 else 0) := by
 unfold lpms
 rw [List.take_add_one, hx, Option.toList, List.filter_append, List.length_append]
 by_cases h : x.k = 2 <;> simp [h]
theorem kbits_next {F : FP} {ks : List Key} {k : Nat} {x : Key} (hx : ks[k]? = some x) : kbits F (ks.take (k + 1)) = kbits F (ks.take k) + kwid F x := by
 unfold kbits
 rw [List.take_add_one, hx]; simp
theorem lpms_le (ks : List Key) : lpms ks ≤ ks.length := List.length_filter_le _ _
theorem kbits_bd (F : FP) (ks : List Key) : 0 ≤ kbits F ks ∧ kbits F ks ≤ 32 * ks.length := by
 unfold kbits
 induction ks with
 | nil => simp
 | cons x l ih =>
  have := Pg.wid_bd F.P x.h x.f
  simp only [List.map_cons, List.sum_cons, List.length_cons]
  unfold kwid at *
  omega
end Tj
theorem tkeys_any {W : World} {p : Pg.PV} {F : Tj.FP} (hF : Tj.IsF W p F) {t : Tj.Tab} {tv : Value} (ht : TabV W tv t) (h6 : t.ks.length ≤ 6) : Calls Tryz.prog 76 #[p.val, tv] W (AtP W (Tj.keysE F t)) := by
 have HW : Hid (∀ (x y : Int) w, Ext W w → Calls Tryz.prog 112 #[p.val, .agg #[.int .i64 x, .int .i64 y]] w (Rets w (.int .i64 (Pg.wid F.P x y)))) := Lh (fun x y w hx => width_any (hF.2.1.1.ext hx) x y)
 obtain ⟨a1, a2, a3, a4, a5, a6, a7, a8, m1, m2, m3, m4, m5, m6, n7, m7, m8, hf⟩ := hF.form
 obtain ⟨rfl, hnm, hhs, hmd, hrs, has, hts, hss, hct, hdp, l1, l2, l3, l4, l5, l6, l7, l8⟩ := hf
 obtain ⟨ka, kc, aa, cc, va, vc, rfl, hnm2, ⟨hbd, hbs⟩, hks, hac, har⟩ := ht
 obtain ⟨nm, ks, ac, ⟨da, ar⟩, sz⟩ := t
 obtain ⟨R, hR⟩ : ∃ z, z = Tj.keysE F ⟨nm, ks, ac, ⟨da, ar⟩, sz⟩ := ⟨_, rfl⟩
 dsimp only [Pg.PV.val] at *
 rw [← hR]
 unfold Tj.keysE at hR
 dsimp only at hR
 have HKS := Lh hks
 have bx := aH W (.cells (Yq0 F a1 m1 a2 m2 a3 m3 a4 m4 a5 m5 a6 m6 a7 m7 n7 a8 m8) 31)
 have k0 := alw (cQ 0 bx)
 have k1 := alw (cQ 1 bx)
 have k2 := alw (cQ 2 bx)
 have k3 := alw (cQ 3 bx)
 have k4 := alw (cQ 4 bx)
 have k5 := alw (cQ 5 bx)
 have k6 := alw (cQ 6 bx)
 have k7 := alw (cQ 7 bx)
 have k8 := alw (cQ 8 bx)
 clear bx
 have bx := aH (W.alloc (.cells (Yq0 F a1 m1 a2 m2 a3 m3 a4 m4 a5 m5 a6 m6 a7 m7 n7 a8 m8) 31)) (.cells #[.string nm, .slice ka ks.length kc, .slice aa ac.length cc, .int .i64 da, .slice va ar.length vc, .int .i64 sz] 96)
 rw [szA] at bx
 have j0 := alw (cQ 0 bx)
 have j1 := alw (cQ 1 bx)
 have j2 := alw (cQ 2 bx)
 have j3 := alw (cQ 3 bx)
 have j4 := alw (cQ 4 bx)
 have j5 := alw (cQ 5 bx)
 clear bx
 clear hF hnm hhs hmd hrs has hts hss hct hdp
 clear hks hac har
 have HE := Lh hR
 clear hR
 go_enter Tryz.func76, Tryz.ntmps76
 go_wp2_with fail
 go_loopw [6, 7, 14] (fun u v c wr => ∃ k : Nat, k ≤ ks.length ∧ c = .int .i64 k ∧ ∃ (n : Nat) (b : Int), u = .int .i64 n ∧ v = .int .i64 b ∧ n ≤ 6 ∧ (0 ≤ b ∧ b ≤ 192) ∧ Hid (Ext ((W.alloc (.cells (Yq0 F a1 m1 a2 m2 a3 m3 a4 m4 a5 m5 a6 m6 a7 m7 n7 a8 m8) 31)).alloc (.cells #[.string nm, .slice ka ks.length kc, .slice aa ac.length cc, .int .i64 da, .slice va ar.length vc, .int .i64 sz] 96)) wr ∧ n = Tj.lpms (ks.take k) ∧ b = Tj.kbits F (ks.take k) ∧ ∀ j y, j < k → ks[j]? = some y → Tj.keyE F y = 0)) (fun _ _ c _ => ks.length - (intOf c).toNat)
 case atStart => exact ⟨0, Nat.zero_le _, rfl, 0, 0, rfl, rfl, by omega, by omega, Lh ⟨eR _, rfl, rfl, by intro j y hj; omega⟩⟩
 case round =>
  obtain ⟨k, hk, rfl, n, b, rfl, rfl, hn6, hb6, HZ⟩ := hrel
  have sx : Step ((W.alloc (.cells (Yq0 F a1 m1 a2 m2 a3 m3 a4 m4 a5 m5 a6 m6 a7 m7 n7 a8 m8) 31)).alloc (.cells #[.string nm, .slice ka ks.length kc, .slice aa ac.length cc, .int .i64 da, .slice va ar.length vc, .int .i64 sz] 96)) wr := ⟨HZ.out.1⟩
  by_cases hlt : k < ks.length
  ·obtain ⟨⟨x1, x2, x3⟩, hx⟩ : ∃ x, ks[k]? = some x := ⟨_, gE hlt⟩
   obtain ⟨kb, ko, rfl, _, _⟩ := Rows.at HKS.out (by omega)
   obtain ⟨g0, g1, g2⟩ := keys_at HKS.out k _ hx rfl
   dsimp only at g0 g1 g2
   have v0 := alw g0
   have v1 := alw g1
   have v2 := alw g2
   have HX := Lh hx
   have bx := aH wr (.cells #[.int .i64 x1, .int .i64 x2, .int .i64 x3] 188)
   have q0 := alw (cQ 0 bx)
   have q1 := alw (cQ 1 bx)
   have q2 := alw (cQ 2 bx)
   clear bx
   obtain ⟨wd, hwd⟩ : ∃ z, z = Pg.wid F.P x1 x2 := ⟨_, rfl⟩
   have hwb := Pg.wid_bd F.P x1 x2
   have HC := Lh (HW.out x1 x2)
   rw [← hwd] at HC hwb
   have HWD : Hid (wd = Tj.kwid F ⟨x1, x2, x3⟩) := Lh hwd
   have hle : Tj.lpms (ks.take (k + 1)) ≤ 6 := by
    refine Nat.le_trans (Tj.lpms_le _) ?_
    rw [List.length_take]; omega
   have hle2 := Tj.kbits_bd F (ks.take (k + 1))
   have hle3 : (ks.take (k + 1)).length ≤ 6 := by rw [List.length_take]; omega
   rw [Tj.kbits_next hx, ← HWD.out] at hle2
   rw [Tj.lpms_next hx] at hle
   have HL1 := Lh hle
   have HL2 := Lh hle2
   have HL3 := Lh hle3
   have HN1 := Lh (Tj.lpms_next hx)
   have HN2 := Lh (Tj.kbits_next (F := F) hx)
   clear hx g0 g1 g2 hwd hle hle2 hle3
   by_cases hw0 : wd = 0
   ·have HE2 : Hid (R = 8) := Lh (by
     have e : Tj.keyE F ⟨x1, x2, x3⟩ = 8 := by unfold Tj.keyE; rw [if_pos (by rw [← HWD.out]; exact hw0)]
     rw [HE.out, Tj.firstE_at HX.out HZ.out.2.2.2 (by rw [e]; decide), e]; rfl)
    have z1 : (wd == 0) = true := bT hw0
    clear hw0
    go_wp2_with fail
    refine via (HC.out _ grows) fun w7 xw7 sw7 => ?_
    go_wp2_with fail
    go_ret2
    exact at_ret _ (by rw [HE2.out]) grows
   ·have z1 : (wd == 0) = false := bF hw0
    have HW0 := Lh hw0
    clear hw0
    by_cases h2 : x3 = 2
    ·subst h2
     go_wp2_with fail
     refine via (HC.out _ grows) fun w7 xw7 sw7 => ?_
     go_wp2_with fail
     go_roundw
     case rel =>
      refine ⟨k + 1, by omega, by go_num, n + 1, b + wd, by go_num, rfl, by have h := HL1.out; rw [← HZ.out.2.1] at h; simpa using h, by have h := HL2.out; rw [← HZ.out.2.2.1] at h; have := HL3.out; omega, Lh ⟨grows, by rw [HN1.out, ← HZ.out.2.1]; simp, by rw [HN2.out, ← HZ.out.2.2.1, ← HWD.out], fun j y hj hy => ?_⟩⟩
      rcases Nat.lt_or_ge j k with h1 | h1
      ·exact HZ.out.2.2.2 j y h1 hy
      ·obtain rfl : j = k := by omega
       rw [HX.out] at hy
       obtain rfl := Option.some.inj hy
       unfold Tj.keyE; rw [if_neg (by rw [← HWD.out]; exact HW0.out), if_pos (.inr (.inl rfl))]
     case measure => simp [intOf]; omega
    ·by_cases h13 : x3 = 1 ∨ x3 = 3
     ·have HX3 := Lh h2
      clear h2
      rcases h13 with rfl | rfl
      all_goals
       go_wp2_with fail
       refine via (HC.out _ grows) fun w7 xw7 sw7 => ?_
       go_wp2_with fail
       go_roundw
       case rel =>
        refine ⟨k + 1, by omega, by go_num, n, b + wd, by go_num, rfl, by have h := HL1.out; rw [← HZ.out.2.1] at h; simpa using h, by have h := HL2.out; rw [← HZ.out.2.2.1] at h; have := HL3.out; omega, Lh ⟨grows, by rw [HN1.out, ← HZ.out.2.1]; simp, by rw [HN2.out, ← HZ.out.2.2.1, ← HWD.out], fun j y hj hy => ?_⟩⟩
        rcases Nat.lt_or_ge j k with h1 | h1
        ·exact HZ.out.2.2.2 j y h1 hy
        ·obtain rfl : j = k := by omega
         rw [HX.out] at hy
         obtain rfl := Option.some.inj hy
         unfold Tj.keyE; rw [if_neg (by rw [← HWD.out]; exact HW0.out), if_pos (by simp)]
       case measure => simp [intOf]; omega
     ·have HE2 : Hid (R = 11) := Lh (by
       have e : Tj.keyE F ⟨x1, x2, x3⟩ = 11 := by unfold Tj.keyE; rw [if_neg (by rw [← HWD.out]; exact HW0.out), if_neg (by show ¬ (x3 = 1 ∨ x3 = 2 ∨ x3 = 3); omega)]
       rw [HE.out, Tj.firstE_at HX.out HZ.out.2.2.2 (by rw [e]; decide), e]; rfl)
      have e1 : (x3 == 1) = false := bF (by omega)
      have e2 : (x3 == 2) = false := bF (by omega)
      have e3 : (x3 == 3) = false := bF (by omega)
      clear h2 h13
      go_wp2_with fail
      refine via (HC.out _ grows) fun w7 xw7 sw7 => ?_
      go_wp2_with fail
      go_ret2
      exact at_ret _ (by rw [HE2.out]) grows
  ·obtain rfl : k = ks.length := by omega
   have HE2 : Hid (R = if 1 < n then 7 else if 64 < b then 10 else 0) := Lh (by
    rw [HE.out, Tj.firstE_zero (fun j x hx => HZ.out.2.2.2 j x (List.getElem?_eq_some_iff.1 hx).1 hx), if_neg (by simp), HZ.out.2.1, HZ.out.2.2.1, List.take_length])
   by_cases hn : 1 < n
   ·have HE3 : Hid (R = 7) := Lh (by rw [HE2.out, if_pos hn])
    have d1 : decide ((1 : Int) < (n : Int)) = true := dTt (by omega)
    go_wp2_with fail
    go_ret2
    exact at_ret _ (by rw [HE3.out]) grows
   ·have d1 : decide ((1 : Int) < (n : Int)) = false := dF (by omega)
    by_cases hb : 64 < b
    ·have HE3 : Hid (R = 10) := Lh (by rw [HE2.out, if_neg hn, if_pos hb])
     have d2 : decide ((64 : Int) < b) = true := dTt (by omega)
     go_wp2_with fail
     go_ret2
     exact at_ret _ (by rw [HE3.out]) grows
    ·have HE3 : Hid (R = 0) := Lh (by rw [HE2.out, if_neg hn, if_neg hb])
     have d2 : decide ((64 : Int) < b) = false := dF (by omega)
     go_wp2_with fail
     go_ret2
     exact at_ret _ (by rw [HE3.out]) grows
theorem rangeE_at {f : Nat → Int} {n k : Nat} (hk : k < n) (h : ∀ j, j < k → f j = 0) (hx : f k ≠ 0) : Tj.firstE f (List.range n) = f k :=
 Tj.firstE_at (k := k) (List.getElem?_range hk) (fun j y hj hy => by
  rw [List.getElem?_range (by omega)] at hy
  obtain rfl := Option.some.inj hy
  exact h j hj) hx
theorem rangeE_zero {f : Nat → Int} {n : Nat} (h : ∀ j, j < n → f j = 0) : Tj.firstE f (List.range n) = 0 :=
 Tj.firstE_zero (fun j x hx => by
  have hlt := (List.getElem?_eq_some_iff.1 hx).1
  rw [List.length_range] at hlt
  rw [List.getElem?_range hlt] at hx
  obtain rfl := Option.some.inj hx
  exact h j hlt)
theorem tacts_any {W : World} {p : Pg.PV} {F : Tj.FP} (hF : Tj.IsF W p F) {t : Tj.Tab} {tv : Value} (ht : TabV W tv t) : Calls Tryz.prog 77 #[p.val, tv] W (Rets W (.int .i64 (Tj.tactsE F t))) := by
 have HF := Lh hF
 obtain ⟨nm, ks, ac, ⟨da, ar⟩, sz⟩ := t
 obtain ⟨a1, a2, a3, a4, a5, a6, a7, a8, m1, m2, m3, m4, m5, m6, n7, m7, m8, hf⟩ := hF.form
 obtain ⟨rfl, hnm, hhs, hmd, hrs, has, hts, hss, hct, hdp, l1, l2, l3, l4, l5, l6, l7, l8⟩ := hf
 obtain ⟨ka, kc, aa, cc, va, vc, rfl, hnm2, ⟨hbd, hbs⟩, hks, hac, har⟩ := ht
 dsimp only [Pg.PV.val] at *
 have HCC := Lh (fun (w : World) (hx : Ext W w) => ccall_any (HF.out.ext hx) ⟨da, ar⟩ (har.ext hx))
 obtain ⟨R, hR⟩ : ∃ z, z = Tj.tactsE F ⟨nm, ks, ac, ⟨da, ar⟩, sz⟩ := ⟨_, rfl⟩
 rw [← hR]
 unfold Tj.tactsE at hR
 dsimp only at hR
 have HAC := Lh hac
 have hacl := hac.1.2
 unfold maxLen at hacl
 have bx := aH W (.cells (Yq0 F a1 m1 a2 m2 a3 m3 a4 m4 a5 m5 a6 m6 a7 m7 n7 a8 m8) 31)
 have k0 := alw (cQ 0 bx)
 have k1 := alw (cQ 1 bx)
 have k2 := alw (cQ 2 bx)
 have k3 := alw (cQ 3 bx)
 have k4 := alw (cQ 4 bx)
 have k5 := alw (cQ 5 bx)
 have k6 := alw (cQ 6 bx)
 have k7 := alw (cQ 7 bx)
 have k8 := alw (cQ 8 bx)
 clear bx
 have bx := aH (W.alloc (.cells (Yq0 F a1 m1 a2 m2 a3 m3 a4 m4 a5 m5 a6 m6 a7 m7 n7 a8 m8) 31)) (.cells #[.string nm, .slice ka ks.length kc, .slice aa ac.length cc, .int .i64 da, .slice va ar.length vc, .int .i64 sz] 96)
 rw [szA] at bx
 have j0 := alw (cQ 0 bx)
 have j1 := alw (cQ 1 bx)
 have j2 := alw (cQ 2 bx)
 have j3 := alw (cQ 3 bx)
 have j4 := alw (cQ 4 bx)
 have j5 := alw (cQ 5 bx)
 clear bx
 clear hF hnm hhs hmd hrs has hts hss hct hdp
 clear hks hac har HF
 have HE := Lh hR
 have hmm := @run_makeMap Tryz.prog
 clear hR
 go_enter Tryz.func77, Tryz.ntmps77
 go_wp2_with fail
 go_loopw [12] (fun c wr => ∃ k : Nat, k ≤ ac.length ∧ c = .int .i64 k ∧ Hid (IntsM wr (W.heap.size + 2) ac k ∧ Ext ((W.alloc (.cells (Yq0 F a1 m1 a2 m2 a3 m3 a4 m4 a5 m5 a6 m6 a7 m7 n7 a8 m8) 31)).alloc (.cells #[.string nm, .slice ka ks.length kc, .slice aa ac.length cc, .int .i64 da, .slice va ar.length vc, .int .i64 sz] 96)) wr ∧ ∀ j, j < k → Tj.tactE F ac j = 0)) (fun c _ => ac.length - (intOf c).toNat)
 case atStart => exact ⟨0, Nat.zero_le _, rfl, Lh ⟨by have h := IntsM.new ((W.alloc (.cells (Yq0 F a1 m1 a2 m2 a3 m3 a4 m4 a5 m5 a6 m6 a7 m7 n7 a8 m8) 31)).alloc (.cells #[.string nm, .slice ka ks.length kc, .slice aa ac.length cc, .int .i64 da, .slice va ar.length vc, .int .i64 sz] 96)) ac; rw [szA, szA] at h; exact h, (eR _).alloc _, by intro j hj; omega⟩⟩
 case round =>
  clear hmm
  obtain ⟨k, hk, rfl, HZ⟩ := hrel
  have sx : Step ((W.alloc (.cells (Yq0 F a1 m1 a2 m2 a3 m3 a4 m4 a5 m5 a6 m6 a7 m7 n7 a8 m8) 31)).alloc (.cells #[.string nm, .slice ka ks.length kc, .slice aa ac.length cc, .int .i64 da, .slice va ar.length vc, .int .i64 sz] 96)) wr := ⟨HZ.out.2.1⟩
  have HN := Lh HZ.out.1
  by_cases hlt : k < ac.length
  ·obtain ⟨x, hx⟩ : ∃ x, ac[k]? = some x := ⟨_, gE hlt⟩
   obtain ⟨b, o, rfl, hc⟩ := ns_at HAC.out.1 (by omega)
   have v0 := hc k x hx
   have HX := Lh hx
   have HB : Hid (Tj.B64 x) := Lh (HAC.out.2 x (List.mem_of_getElem? hx))
   have hg : ac.getD k 0 = x := by rw [List.getD_eq_getElem?_getD, hx]; rfl
   have HG := Lh hg
   clear hx hc hg
   by_cases h0 : x < 0
   ·have HE2 : Hid (R = 8) := Lh (by
     have e : Tj.tactE F ac k = 8 := by unfold Tj.tactE; rw [HG.out, if_pos (.inl h0)]
     rw [HE.out, rangeE_at hlt HZ.out.2.2 (by rw [e]; decide), e]; rfl)
    have d1 : decide (x < 0) = true := dTt (by omega)
    go_wp2_with fail
    go_ret
    exact ⟨ret_int (by rw [HE2.out]), grows⟩
   ·have d1 : decide (x < 0) = false := dF (by omega)
    by_cases h1 : (F.ac.length : Int) ≤ x
    ·have HE2 : Hid (R = 8) := Lh (by
      have e : Tj.tactE F ac k = 8 := by unfold Tj.tactE; rw [HG.out, if_pos (.inr h1)]
      rw [HE.out, rangeE_at hlt HZ.out.2.2 (by rw [e]; decide), e]; rfl)
     have d2 : decide ((F.ac.length : Int) ≤ x) = true := dTt (by omega)
     go_wp2_with fail
     go_ret
     exact ⟨ret_int (by rw [HE2.out]), grows⟩
    ·have d2 : decide ((F.ac.length : Int) ≤ x) = false := dF (by omega)
     have H01 : Hid (¬ (x < 0 ∨ (F.ac.length : Int) ≤ x)) := Lh (by omega)
     clear h0 h1
     obtain ⟨se, hse⟩ : ∃ z, z = (ac.take k).any (· == x) := ⟨_, rfl⟩
     have HSE := Lh hse
     have hlook := HN.out.look HB.out
     rw [← hse] at hlook
     clear hse
     cases se with
     | true =>
      have HE2 : Hid (R = 7) := Lh (by
       have e : Tj.tactE F ac k = 7 := by unfold Tj.tactE; rw [HG.out, if_neg H01.out, if_pos HSE.out.symm]
       rw [HE.out, rangeE_at hlt HZ.out.2.2 (by rw [e]; decide), e]; rfl)
      go_wp2_with fail
      go_ret
      exact ⟨ret_int (by rw [HE2.out]), grows⟩
     | false =>
      obtain ⟨D, hD⟩ := HN.out
      have HD2 := Lh hD.2
      have HOW := Lh hD.1
      have HKY := Lh (keyOf_int_mk Tryz.underlying3 (wf_b64 HB.out))
      have HDM : Hid (IsMap D) := Lh (by obtain ⟨es, clock, _, _, _, e⟩ := hD.1; exact ⟨_, e⟩)
      clear hD
      go_wp2_with (first | (at_mapUpdate; refine wpList_mapUpdate_own _ rfl _ _ _ 208 rfl 3 4 int_law Tryz.underlying208 _ (W.heap.size + 2) k _ rfl HOW.out (by unfold maxLen; omega) _ _ _ rfl rfl HKY.out _ [] (plainElem_bool Tryz.underlying4 true) ?_) | fail)
      intro w6 hown6 hg6
      have hx6 : Ext ((W.alloc (.cells (Yq0 F a1 m1 a2 m2 a3 m3 a4 m4 a5 m5 a6 m6 a7 m7 n7 a8 m8) 31)).alloc (.cells #[.string nm, .slice ka ks.length kc, .slice (some ⟨b, o, none⟩) ac.length cc, .int .i64 da, .slice va ar.length vc, .int .i64 sz] 96)) w6 := grown_map (grows (a := ((W.alloc (.cells (Yq0 F a1 m1 a2 m2 a3 m3 a4 m4 a5 m5 a6 m6 a7 m7 n7 a8 m8) 31)).alloc (.cells #[.string nm, .slice ka ks.length kc, .slice (some ⟨b, o, none⟩) ac.length cc, .int .i64 da, .slice va ar.length vc, .int .i64 sz] 96))) (b := wr)) hg6 (by rw [szA, szA]; exact Nat.le_refl _)
      have HN6 : Hid (IntsM w6 (W.heap.size + 2) ac (k + 1)) := Lh (IntsM.put HX.out HB.out HD2.out HDM.out hown6)
      have HX6 := Lh hx6
      clear hown6 hg6 hx6 hlook
      go_wp2_with fail
      go_roundw
      case rel =>
       refine ⟨k + 1, by omega, by go_num, Lh ⟨HN6.out, HX6.out, fun j hj => ?_⟩⟩
       rcases Nat.lt_or_ge j k with h1 | h1
       ·exact HZ.out.2.2 j h1
       ·obtain rfl : j = k := by omega
        unfold Tj.tactE; rw [HG.out, if_neg H01.out, if_neg (by rw [← HSE.out]; decide)]
      case measure => simp [intOf]; omega
  ·obtain rfl : k = ac.length := by omega
   obtain ⟨se, hse⟩ : ∃ z, z = ac.any (· == da) := ⟨_, rfl⟩
   have hlook := HN.out.look hbd
   rw [List.take_length, ← hse] at hlook
   have HE2 : Hid (R = if se then Tj.callE F ⟨da, ar⟩ else 8) := Lh (by rw [HE.out, rangeE_zero HZ.out.2.2, if_neg (by simp), hse])
   obtain ⟨ce, hce⟩ : ∃ z, z = Tj.callE F ⟨da, ar⟩ := ⟨_, rfl⟩
   rw [← hce] at HCC HE2
   clear hse hce
   cases se with
   | true =>
    go_wp2_with fail
    refine via (HCC.out _ grows) fun w7 xw7 sw7 => ?_
    go_wp2_with fail
    go_ret
    exact ⟨ret_int (by rw [HE2.out]; rfl), grows⟩
   | false =>
    go_wp2_with fail
    go_ret
    exact ⟨ret_int (by rw [HE2.out]; rfl), grows⟩
namespace Tj
/-- what is wrong with table t of a program -/
def tabI (F : FP) (t : Int) : Int := match at? F.ts t with | some x => tabE F x | none => 8
def tab0 : Tab := ⟨⟨#[]⟩, [], [], ⟨0, []⟩, 0⟩
def tabAt (F : FP) (t : Int) : Tab := (at? F.ts t).getD tab0
def wids (F : FP) (t : Int) : List Int := if tabI F t = 0 then (tabAt F t).ks.map (kwid F) else []
/-- the kind of a list of keys, where the kind so far is c -/
def kindK : Int → List Key → Int
 | c, [] => c
 | c, k :: l => if k.k = 3 then 3 else if k.k = 2 then kindK 2 l else kindK c l
def kind (F : FP) (t : Int) : Int := if tabI F t = 0 then kindK 1 (tabAt F t).ks else 0
theorem tab_of {F : FP} {t : Int} (h : tabI F t = 0) : ∃ x, at? F.ts t = some x ∧ tabE F x = 0 ∧ tabAt F t = x := by
 unfold tabI at h
 cases hx : at? F.ts t with
 | none => rw [hx] at h; cases h
 | some x => rw [hx] at h; exact ⟨x, rfl, h, by unfold tabAt; rw [hx]; rfl⟩
theorem tab_ks {F : FP} {x : Tab} (h : tabE F x = 0) : x.ks.length ≤ 6 ∧ x.ac.length ≤ 16 ∧ (1 ≤ x.sz ∧ x.sz ≤ 256) := by
 unfold tabE at h
 by_cases h1 : Id.ok x.nm = true
 ·rw [if_pos h1] at h
  by_cases h2 : 6 < x.ks.length ∨ 16 < x.ac.length
  ·rw [if_pos h2] at h; exact absurd h (by decide)
  ·rw [if_neg h2] at h
   by_cases h3 : x.sz < 1 ∨ 256 < x.sz
   ·rw [if_pos h3] at h; exact absurd h (by decide)
   ·omega
 ·rw [if_neg h1] at h; exact absurd h (by decide)
theorem kindK_cons {c : Int} {ks : List Key} {j : Nat} {x : Key} (hx : ks[j]? = some x) : kindK c (ks.drop j) = if x.k = 3 then 3 else if x.k = 2 then kindK 2 (ks.drop (j + 1)) else kindK c (ks.drop (j + 1)) := by
 obtain ⟨hlt, e⟩ := List.getElem?_eq_some_iff.1 hx
 rw [List.drop_eq_getElem_cons hlt, e]; rfl
end Tj
abbrev Yq5 (F : Tj.FP) (a1 : Option Addr) (m1 : Nat) (a2 : Option Addr) (m2 : Nat) (a3 : Option Addr) (m3 : Nat) (a4 : Option Addr) (m4 : Nat) (tb : Nat) (tq : Nat) (m5 : Nat) (a6 : Option Addr) (m6 : Nat) (a7 : Option Addr) (m7 : Nat) (n7 : Nat) (a8 : Option Addr) (m8 : Nat) : Array Value := #[.string F.nm, .slice a1 F.P.hs.length m1, .slice a2 F.P.md.length m2, .slice a3 F.rs.length m3, .slice a4 F.ac.length m4, .slice (some ⟨tb, tq, none⟩) F.ts.length m5, .slice a6 F.ss.length m6, .slice a7 n7 m7, .slice a8 F.P.dp.length m8]
theorem tcheck_any {W : World} {p : Pg.PV} {F : Tj.FP} (hF : Tj.IsF W p F) (t : Int) : Calls Tryz.prog 52 #[p.val, .int .i64 t] W (AtP W (Tj.tabI F t)) := by
 have HF := Lh hF
 obtain ⟨a1, a2, a3, a4, a5, a6, a7, a8, m1, m2, m3, m4, m5, m6, n7, m7, m8, hf⟩ := hF.form
 obtain ⟨rfl, hnm, hhs, hmd, hrs, has, hts, hss, hct, hdp, l1, l2, l3, l4, l5, l6, l7, l8⟩ := hf
 obtain ⟨R, hR⟩ : ∃ z, z = Tj.tabI F t := ⟨_, rfl⟩
 rw [← hR]
 unfold Tj.tabI at hR
 dsimp only [Pg.PV.val]
 clear hnm hhs hmd hrs has hss hct hdp hF
 have bx := aH W (.cells (Yq0 F a1 m1 a2 m2 a3 m3 a4 m4 a5 m5 a6 m6 a7 m7 n7 a8 m8) 31)
 have k0 := alw (cQ 0 bx)
 have k1 := alw (cQ 1 bx)
 have k2 := alw (cQ 2 bx)
 have k3 := alw (cQ 3 bx)
 have k4 := alw (cQ 4 bx)
 have k5 := alw (cQ 5 bx)
 have k6 := alw (cQ 6 bx)
 have k7 := alw (cQ 7 bx)
 have k8 := alw (cQ 8 bx)
 clear bx
 by_cases hi0 : t < 0
 ·have HE : Hid (R = 8) := Lh (by rw [hR, Tj.at_none (.inl hi0)])
  have d1 : decide (t < 0) = true := dTt (by omega)
  clear hR hts
  go_enter Tryz.func52, Tryz.ntmps52
  go_wp2_with fail
  go_ret2
  exact at_ret _ (by rw [HE.out]) grows
 ·have d1 : decide (t < 0) = false := dF (by omega)
  by_cases hi1 : (F.ts.length : Int) ≤ t
  ·have HE : Hid (R = 8) := Lh (by rw [hR, Tj.at_none (.inr hi1)])
   have d2 : decide ((F.ts.length : Int) ≤ t) = true := dTt (by omega)
   clear hR hts
   go_enter Tryz.func52, Tryz.ntmps52
   go_wp2_with fail
   go_ret2
   exact at_ret _ (by rw [HE.out]) grows
  ·have d2 : decide ((F.ts.length : Int) ≤ t) = false := dF (by omega)
   obtain ⟨q, rfl⟩ := Int.eq_ofNat_of_zero_le (show 0 ≤ t by omega)
   obtain ⟨x, hq⟩ : ∃ x, F.ts[q]? = some x := ⟨_, gE (by omega)⟩
   obtain ⟨tb, tq, rfl, _, _⟩ := Rows.at hts (by omega)
   obtain ⟨ka, kc, aa, cc, va, vc, hnm2, hbb, hks, hac, har, g0, g1, g2, g3, g4, g5⟩ := tabs_at hts q x hq rfl
   have hat : Tj.at? F.ts (q : Int) = some x := by unfold Tj.at?; rw [if_pos (by omega), Int.toNat_natCast]; exact hq
   rw [hat] at hR
   dsimp only at hR
   have HTV : Hid (TabV W (.agg #[.string x.nm, .slice ka x.ks.length kc, .slice aa x.ac.length cc, .int .i64 x.df.a, .slice va x.df.ar.length vc, .int .i64 x.sz]) x) := Lh ⟨ka, kc, aa, cc, va, vc, rfl, hnm2, hbb, hks, hac, har⟩
   have HKE : Hid (x.ks.length ≤ 6 → ∀ w, Ext W w → Calls Tryz.prog 76 #[.agg (Yq5 F a1 m1 a2 m2 a3 m3 a4 m4 tb tq m5 a6 m6 a7 m7 n7 a8 m8), .agg #[.string x.nm, .slice ka x.ks.length kc, .slice aa x.ac.length cc, .int .i64 x.df.a, .slice va x.df.ar.length vc, .int .i64 x.sz]] w (AtP w (Tj.keysE F x))) := Lh (fun h6 w hx => tkeys_any (HF.out.ext hx) (HTV.out.ext hx) h6)
   have HAE := Lh (fun (w : World) (hx : Ext W w) => tacts_any (HF.out.ext hx) (HTV.out.ext hx))
   have HNM := Lh hnm2
   obtain ⟨nm, ks, ac, ⟨da, ar⟩, sz⟩ := x
   dsimp only at *
   have y0 := alw g0
   have y1 := alw g1
   have y2 := alw g2
   have y3 := alw g3
   have y4 := alw g4
   have y5 := alw g5
   have bx := aH (W.alloc (.cells (Yq5 F a1 m1 a2 m2 a3 m3 a4 m4 tb tq m5 a6 m6 a7 m7 n7 a8 m8) 31)) (.cells #[.string nm, .slice ka ks.length kc, .slice aa ac.length cc, .int .i64 da, .slice va ar.length vc, .int .i64 sz] 96)
   rw [szA] at bx
   have tk0 := alw (cQ 0 bx)
   have tk1 := alw (cQ 1 bx)
   have tk2 := alw (cQ 2 bx)
   have tk3 := alw (cQ 3 bx)
   have tk4 := alw (cQ 4 bx)
   have tk5 := alw (cQ 5 bx)
   clear bx
   unfold Tj.tabE at hR
   dsimp only at hR
   obtain ⟨ke, hke⟩ : ∃ z, z = Tj.keysE F ⟨nm, ks, ac, ⟨da, ar⟩, sz⟩ := ⟨_, rfl⟩
   obtain ⟨ae, hae⟩ : ∃ z, z = Tj.tactsE F ⟨nm, ks, ac, ⟨da, ar⟩, sz⟩ := ⟨_, rfl⟩
   rw [← hke] at HKE hR
   rw [← hae] at HAE hR
   clear hts hnm2 hbb hks hac har g0 g1 g2 g3 g4 g5 hq hat hke hae
   cases hok : Id.ok nm with
   | false =>
    have HE : Hid (R = 6) := Lh (by rw [hR, if_neg (by rw [hok]; decide)])
    have HOK := Lh hok
    clear hR hok
    go_enter Tryz.func52, Tryz.ntmps52
    go_wp2_with (first | (go_at_call 68; refine (ident_any _ _ HNM.out).mono ?_; rintro e w1 ⟨rfl, rfl⟩; rw [HOK.out]) | fail)
    go_ret2
    exact at_ret _ (by rw [HE.out]) grows
   | true =>
    have HOK := Lh hok
    rw [if_pos hok] at hR
    clear hok
    by_cases h6 : 6 < ks.length
    ·have HE : Hid (R = 12) := Lh (by rw [hR, if_pos (.inl h6)])
     have e1 : decide ((6 : Int) < (ks.length : Int)) = true := dTt (by omega)
     clear hR
     go_enter Tryz.func52, Tryz.ntmps52
     go_wp2_with (first | (go_at_call 68; refine (ident_any _ _ HNM.out).mono ?_; rintro e w1 ⟨rfl, rfl⟩; rw [HOK.out]) | fail)
     go_ret2
     exact at_ret _ (by rw [HE.out]) grows
    ·have e1 : decide ((6 : Int) < (ks.length : Int)) = false := dF (by omega)
     by_cases h16 : 16 < ac.length
     ·have HE : Hid (R = 12) := Lh (by rw [hR, if_pos (.inr h16)])
      have e2 : decide ((16 : Int) < (ac.length : Int)) = true := dTt (by omega)
      clear hR
      go_enter Tryz.func52, Tryz.ntmps52
      go_wp2_with (first | (go_at_call 68; refine (ident_any _ _ HNM.out).mono ?_; rintro e w1 ⟨rfl, rfl⟩; rw [HOK.out]) | fail)
      go_ret2
      exact at_ret _ (by rw [HE.out]) grows
     ·have e2 : decide ((16 : Int) < (ac.length : Int)) = false := dF (by omega)
      rw [if_neg (by omega)] at hR
      by_cases hs1 : sz < 1
      ·have HE : Hid (R = 9) := Lh (by rw [hR, if_pos (.inl hs1)])
       have e3 : decide (sz < 1) = true := dTt (by omega)
       clear hR
       go_enter Tryz.func52, Tryz.ntmps52
       go_wp2_with (first | (go_at_call 68; refine (ident_any _ _ HNM.out).mono ?_; rintro e w1 ⟨rfl, rfl⟩; rw [HOK.out]) | fail)
       go_ret2
       exact at_ret _ (by rw [HE.out]) grows
      ·have e3 : decide (sz < 1) = false := dF (by omega)
       by_cases hs2 : 256 < sz
       ·have HE : Hid (R = 9) := Lh (by rw [hR, if_pos (.inr hs2)])
        have e4 : decide (256 < sz) = true := dTt (by omega)
        clear hR
        go_enter Tryz.func52, Tryz.ntmps52
        go_wp2_with (first | (go_at_call 68; refine (ident_any _ _ HNM.out).mono ?_; rintro e w1 ⟨rfl, rfl⟩; rw [HOK.out]) | fail)
        go_ret2
        exact at_ret _ (by rw [HE.out]) grows
       ·have e4 : decide (256 < sz) = false := dF (by omega)
        rw [if_neg (by omega)] at hR
        have HKE2 := Lh (HKE.out (by omega))
        clear HKE
        by_cases hk0 : ke = 0
        ·subst hk0
         rw [if_neg (by simp)] at hR
         by_cases ha0 : ae = 0
         ·subst ha0
          have HE := Lh hR
          clear hR
          go_enter Tryz.func52, Tryz.ntmps52
          go_wp2_with (first | (go_at_call 68; refine (ident_any _ _ HNM.out).mono ?_; rintro e w1 ⟨rfl, rfl⟩; rw [HOK.out]) | fail)
          refine (HKE2.out _ grows).mono ?_
          rintro e w3 ⟨i3, rfl, x3⟩
          have s3 := Sm x3
          go_wp2_with fail
          refine via (HAE.out _ grows) fun w4 xw4 sw4 => ?_
          go_wp2_with fail
          go_ret2
          exact at_ret _ (by rw [HE.out]) grows
         ·have HE := Lh hR
          have z2 : (ae != 0) = true := nT ha0
          clear hR ha0
          go_enter Tryz.func52, Tryz.ntmps52
          go_wp2_with (first | (go_at_call 68; refine (ident_any _ _ HNM.out).mono ?_; rintro e w1 ⟨rfl, rfl⟩; rw [HOK.out]) | fail)
          refine (HKE2.out _ grows).mono ?_
          rintro e w3 ⟨i3, rfl, x3⟩
          have s3 := Sm x3
          go_wp2_with fail
          refine via (HAE.out _ grows) fun w4 xw4 sw4 => ?_
          go_wp2_with fail
          go_ret2
          exact at_ret _ (by rw [HE.out]) grows
        ·have HE : Hid (R = ke) := Lh (by rw [hR, if_pos hk0])
         have z1 : (ke != 0) = true := nT hk0
         clear hR hk0
         go_enter Tryz.func52, Tryz.ntmps52
         go_wp2_with (first | (go_at_call 68; refine (ident_any _ _ HNM.out).mono ?_; rintro e w1 ⟨rfl, rfl⟩; rw [HOK.out]) | fail)
         refine (HKE2.out _ grows).mono ?_
         rintro e w3 ⟨i3, rfl, x3⟩
         have s3 := Sm x3
         go_wp2_with fail
         go_ret2
         exact at_ret _ (by rw [HE.out]) grows
theorem tvalid_any {W : World} {p : Pg.PV} {F : Tj.FP} (hF : Tj.IsF W p F) (t : Int) : Calls Tryz.prog 135 #[p.val, .int .i64 t] W (Rets W (.bool (Tj.tabI F t == 0))) := by
 have HC := Lh (fun (w : World) (hx : Ext W w) => tcheck_any (hF.ext hx) t)
 obtain ⟨a1, a2, a3, a4, a5, a6, a7, a8, m1, m2, m3, m4, m5, m6, n7, m7, m8, hf⟩ := hF.form
 obtain ⟨rfl, hnm, hhs, hmd, hrs, has, hts, hss, hct, hdp, l1, l2, l3, l4, l5, l6, l7, l8⟩ := hf
 obtain ⟨R, hR⟩ : ∃ z, z = Tj.tabI F t := ⟨_, rfl⟩
 rw [← hR] at HC ⊢
 dsimp only [Pg.PV.val] at HC ⊢
 clear hF hnm hhs hmd hrs has hts hss hct hdp
 clear hR
 have bx := aH W (.cells (Yq0 F a1 m1 a2 m2 a3 m3 a4 m4 a5 m5 a6 m6 a7 m7 n7 a8 m8) 31)
 have k0 := alw (cQ 0 bx)
 have k1 := alw (cQ 1 bx)
 have k2 := alw (cQ 2 bx)
 have k3 := alw (cQ 3 bx)
 have k4 := alw (cQ 4 bx)
 have k5 := alw (cQ 5 bx)
 have k6 := alw (cQ 6 bx)
 have k7 := alw (cQ 7 bx)
 have k8 := alw (cQ 8 bx)
 clear bx
 go_enter Tryz.func135, Tryz.ntmps135
 go_wp2_with fail
 refine (HC.out _ grows).mono ?_
 rintro e w3 ⟨i3, rfl, x3⟩
 have s3 := Sm x3
 go_wp2_with fail
 go_ret
 exact ⟨rfl, grows⟩
/-- a slice of Go's ints in new memory, or nil -/
def IntsP (W : World) (l : List Int) (e : Ending) (w' : World) : Prop := ∃ v, e = .returned v ∧ Ext W w' ∧ Ns .i64 w' v l
theorem twidths_any {W : World} {p : Pg.PV} {F : Tj.FP} (hF : Tj.IsF W p F) (t : Int) : Calls Tryz.prog 134 #[p.val, .int .i64 t] W (IntsP W (Tj.wids F t)) := by
 have HF := Lh hF
 have HV := Lh (fun (w : World) (hx : Ext W w) => tvalid_any (hF.ext hx) t)
 have HW : Hid (∀ (x y : Int) w, Ext W w → Calls Tryz.prog 112 #[p.val, .agg #[.int .i64 x, .int .i64 y]] w (Rets w (.int .i64 (Pg.wid F.P x y)))) := Lh (fun x y w hx => width_any (hF.2.1.1.ext hx) x y)
 obtain ⟨a1, a2, a3, a4, a5, a6, a7, a8, m1, m2, m3, m4, m5, m6, n7, m7, m8, hf⟩ := hF.form
 obtain ⟨rfl, hnm, hhs, hmd, hrs, has, hts, hss, hct, hdp, l1, l2, l3, l4, l5, l6, l7, l8⟩ := hf
 dsimp only [Pg.PV.val] at HV HW ⊢
 obtain ⟨R, hR⟩ : ∃ z, z = Tj.wids F t := ⟨_, rfl⟩
 rw [← hR]
 unfold Tj.wids at hR
 clear hnm hhs hmd hrs has hss hct hdp hF
 have bx := aH W (.cells (Yq0 F a1 m1 a2 m2 a3 m3 a4 m4 a5 m5 a6 m6 a7 m7 n7 a8 m8) 31)
 have k0 := alw (cQ 0 bx)
 have k1 := alw (cQ 1 bx)
 have k2 := alw (cQ 2 bx)
 have k3 := alw (cQ 3 bx)
 have k4 := alw (cQ 4 bx)
 have k5 := alw (cQ 5 bx)
 have k6 := alw (cQ 6 bx)
 have k7 := alw (cQ 7 bx)
 have k8 := alw (cQ 8 bx)
 clear bx
 by_cases h0 : Tj.tabI F t = 0
 ·obtain ⟨x, hat, hx0, htA⟩ := Tj.tab_of h0
  obtain ⟨ht0, ht1, hq⟩ := Tj.at_get hat
  obtain ⟨q, rfl⟩ := Int.eq_ofNat_of_zero_le ht0
  rw [Int.toNat_natCast] at hq
  obtain ⟨hk6, ha16, _⟩ := Tj.tab_ks hx0
  rw [bT h0] at HV
  obtain ⟨tb, tq, rfl, _, _⟩ := Rows.at hts (by omega)
  obtain ⟨ka, kc, aa, cc, va, vc, hnm2, hbb, hks, hac, har, g0, g1, g2, g3, g4, g5⟩ := tabs_at hts q x hq rfl
  have y0 := alw g0
  have y1 := alw g1
  have y2 := alw g2
  have y3 := alw g3
  have y4 := alw g4
  have y5 := alw g5
  have HKS := Lh hks
  have HAC := Lh hac
  clear hts hat hnm2 hbb hks hac har g0 g1 g2 g3 g4 g5
  rw [if_pos h0, htA] at hR
  have HE := Lh hR
  clear hR h0 htA
  go_enter Tryz.func134, Tryz.ntmps134
  go_wp2_with fail
  refine via (HV.out _ grows) fun w3 x3 s3 => ?_
  go_wp2_with fail
  go_loopw [5, 19] (fun o c wr => ∃ k : Nat, k ≤ x.ks.length ∧ c = .int .i64 k ∧ ∃ oo co, o = .slice oo k co ∧ Hid (Ext (W.alloc (.cells (Yq5 F a1 m1 a2 m2 a3 m3 a4 m4 tb tq m5 a6 m6 a7 m7 n7 a8 m8) 31)) wr ∧ wr.ownsRow (W.heap.size + 1) 3 1 o k (i64s ((x.ks.take k).map (Tj.kwid F))))) (fun _ c _ => x.ks.length - (intOf c).toNat)
  case atStart => exact ⟨0, Nat.zero_le _, rfl, _, _, rfl, Lh ⟨grows, World.ownsRow_nil _ _ _ _⟩⟩
  case round =>
   obtain ⟨k, hk, rfl, oo, co, rfl, HZ⟩ := hrel
   have sx : Step (W.alloc (.cells (Yq5 F a1 m1 a2 m2 a3 m3 a4 m4 tb tq m5 a6 m6 a7 m7 n7 a8 m8) 31)) wr := ⟨HZ.out.1⟩
   by_cases hlt : k < x.ks.length
   ·obtain ⟨⟨x1, x2, x3⟩, hx⟩ : ∃ y, x.ks[k]? = some y := ⟨_, gE hlt⟩
    obtain ⟨kb, ko, rfl, _, _⟩ := Rows.at HKS.out (by omega)
    obtain ⟨g0, g1, g2⟩ := keys_at HKS.out k _ hx rfl
    dsimp only at g0 g1 g2
    have v0 := alw g0
    have v1 := alw g1
    have v2 := alw g2
    have HX := Lh hx
    have bx := aH wr (.cells #[.int .i64 x1, .int .i64 x2, .int .i64 x3] 188)
    have qk0 := alw (cQ 0 bx)
    have qk1 := alw (cQ 1 bx)
    have qk2 := alw (cQ 2 bx)
    clear bx
    obtain ⟨wd, hwd⟩ : ∃ z, z = Pg.wid F.P x1 x2 := ⟨_, rfl⟩
    have HC := Lh (HW.out x1 x2)
    rw [← hwd] at HC
    have hsn : (x.ks.take (k + 1)).map (Tj.kwid F) = (x.ks.take k).map (Tj.kwid F) ++ [wd] := by
     rw [List.take_add_one, hx, hwd]; simp; rfl
    have HSN := Lh hsn
    have hle : W.heap.size + 1 ≤ wr.heap.size := by have h := HZ.out.1.le; rw [szA] at h; exact h
    clear hx g0 g1 g2 hwd hsn
    go_wp2_with fail
    refine via (HC.out _ grows) fun w7 x7 s7 => ?_
    have hle7 := x7.le
    simp only [szA] at hle7
    have HS1 := Lh (src_one w7 (.int .i64 wd) 3 rfl)
    have HO1 := Lh (own_now HZ.out.2 (w := w7.alloc (.cells #[.int .i64 wd] 3)))
    go_wp2_with (at_builtin; refine wpList_append_fresh rfl (.tmp 23) (.tmp 28) 29 rfl (W.heap.size + 1) 3 (.int .i64 0) 1 8 Tryz.underlying29 info_i64 rfl (by decide) _ k (i64s ((x.ks.take k).map (Tj.kwid F))) rfl HO1.out _ 1 [.int .i64 wd] rfl HS1.out ?d1 ?d2 ?d3 ?_)
    case d1 => unfold maxLen; omega
    case d2 => omega
    case d3 => (try simp); omega
    intro v' w' hown hgr _
    have hx3 : Ext (W.alloc (.cells (Yq5 F a1 m1 a2 m2 a3 m3 a4 m4 tb tq m5 a6 m6 a7 m7 n7 a8 m8) 31)) w' := (grows (a := (W.alloc (.cells (Yq5 F a1 m1 a2 m2 a3 m3 a4 m4 tb tq m5 a6 m6 a7 m7 n7 a8 m8) 31))) (b := w7.alloc (.cells #[.int .i64 wd] 3))).mod (grown_mod hgr) (fun q hq => by rw [szA]; exact (HO1.out.lt q hq.symm).1)
    have HX3 := Lh hx3
    obtain ⟨o3, c3, rfl⟩ := own_slice hown
    have HA3 := Lh hown
    clear hgr hown hx3
    go_wp2_with fail
    go_roundw
    case rel => exact ⟨k + 1, by omega, by go_num, o3, c3, rfl, Lh ⟨HX3.out, by rw [HSN.out]; simpa [i64s] using HA3.out⟩⟩
    case measure => simp [intOf]; omega
   ·obtain rfl : k = x.ks.length := by omega
    go_wp2_with fail
    go_ret
    refine ⟨_, rfl, grows, ?_⟩
    have h := HZ.out.2
    rw [List.take_length, ← HE.out] at h
    have hl : R.length = x.ks.length := by rw [HE.out, List.length_map]
    rw [← hl] at h
    exact ⟨by rw [← hl]; exact own_src h (i64s_one _), by rw [hl]; unfold maxLen; omega⟩
 ·rw [if_neg h0] at hR
  have hv : (Tj.tabI F t == 0) = false := bF h0
  rw [hv] at HV
  have HE := Lh hR
  clear hR h0 hv hts
  go_enter Tryz.func134, Tryz.ntmps134
  go_wp2_with fail
  refine via (HV.out _ grows) fun w3 x3 s3 => ?_
  go_wp2_with fail
  go_ret
  refine ⟨_, rfl, grows, ?_⟩
  rw [HE.out]
  exact ⟨⟨rfl, by simp, .inl ⟨rfl, rfl⟩⟩, Nat.zero_le _⟩
theorem tkind_any {W : World} {p : Pg.PV} {F : Tj.FP} (hF : Tj.IsF W p F) (t : Int) : Calls Tryz.prog 98 #[p.val, .int .i64 t] W (Rets W (.int .i64 (Tj.kind F t))) := by
 have HF := Lh hF
 have HV := Lh (fun (w : World) (hx : Ext W w) => tvalid_any (hF.ext hx) t)
 have HW : Hid (∀ (x y : Int) w, Ext W w → Calls Tryz.prog 112 #[p.val, .agg #[.int .i64 x, .int .i64 y]] w (Rets w (.int .i64 (Pg.wid F.P x y)))) := Lh (fun x y w hx => width_any (hF.2.1.1.ext hx) x y)
 obtain ⟨a1, a2, a3, a4, a5, a6, a7, a8, m1, m2, m3, m4, m5, m6, n7, m7, m8, hf⟩ := hF.form
 obtain ⟨rfl, hnm, hhs, hmd, hrs, has, hts, hss, hct, hdp, l1, l2, l3, l4, l5, l6, l7, l8⟩ := hf
 dsimp only [Pg.PV.val] at HV HW ⊢
 obtain ⟨R, hR⟩ : ∃ z, z = Tj.kind F t := ⟨_, rfl⟩
 rw [← hR]
 unfold Tj.kind at hR
 clear hnm hhs hmd hrs has hss hct hdp hF
 have bx := aH W (.cells (Yq0 F a1 m1 a2 m2 a3 m3 a4 m4 a5 m5 a6 m6 a7 m7 n7 a8 m8) 31)
 have k0 := alw (cQ 0 bx)
 have k1 := alw (cQ 1 bx)
 have k2 := alw (cQ 2 bx)
 have k3 := alw (cQ 3 bx)
 have k4 := alw (cQ 4 bx)
 have k5 := alw (cQ 5 bx)
 have k6 := alw (cQ 6 bx)
 have k7 := alw (cQ 7 bx)
 have k8 := alw (cQ 8 bx)
 clear bx
 clear HW
 by_cases h0 : Tj.tabI F t = 0
 ·obtain ⟨x, hat, hx0, htA⟩ := Tj.tab_of h0
  obtain ⟨ht0, ht1, hq⟩ := Tj.at_get hat
  obtain ⟨q, rfl⟩ := Int.eq_ofNat_of_zero_le ht0
  rw [Int.toNat_natCast] at hq
  obtain ⟨hk6, ha16, _⟩ := Tj.tab_ks hx0
  rw [bT h0] at HV
  obtain ⟨tb, tq, rfl, _, _⟩ := Rows.at hts (by omega)
  obtain ⟨ka, kc, aa, cc, va, vc, hnm2, hbb, hks, hac, har, g0, g1, g2, g3, g4, g5⟩ := tabs_at hts q x hq rfl
  have y0 := alw g0
  have y1 := alw g1
  have y2 := alw g2
  have y3 := alw g3
  have y4 := alw g4
  have y5 := alw g5
  have HKS := Lh hks
  have HAC := Lh hac
  clear hts hat hnm2 hbb hks hac har g0 g1 g2 g3 g4 g5
  rw [if_pos h0, htA] at hR
  have HE := Lh hR
  clear hR h0 htA
  go_enter Tryz.func98, Tryz.ntmps98
  go_wp2_with fail
  refine via (HV.out _ grows) fun w3 x3 s3 => ?_
  go_wp2_with fail
  go_loopw [5, 19] (fun o c wr => ∃ k : Nat, k ≤ x.ks.length ∧ c = .int .i64 k ∧ ∃ g : Int, o = .int .i64 g ∧ Hid (Ext (W.alloc (.cells (Yq5 F a1 m1 a2 m2 a3 m3 a4 m4 tb tq m5 a6 m6 a7 m7 n7 a8 m8) 31)) wr ∧ Tj.kindK g (x.ks.drop k) = Tj.kindK 1 x.ks)) (fun _ c _ => x.ks.length - (intOf c).toNat)
  case atStart => exact ⟨0, Nat.zero_le _, rfl, 1, rfl, Lh ⟨grows, rfl⟩⟩
  case round =>
   obtain ⟨k, hk, rfl, g, rfl, HZ⟩ := hrel
   have sx : Step (W.alloc (.cells (Yq5 F a1 m1 a2 m2 a3 m3 a4 m4 tb tq m5 a6 m6 a7 m7 n7 a8 m8) 31)) wr := ⟨HZ.out.1⟩
   by_cases hlt : k < x.ks.length
   ·obtain ⟨⟨x1, x2, x3⟩, hx⟩ : ∃ y, x.ks[k]? = some y := ⟨_, gE hlt⟩
    obtain ⟨kb, ko, rfl, _, _⟩ := Rows.at HKS.out (by omega)
    obtain ⟨g0, g1, g2⟩ := keys_at HKS.out k _ hx rfl
    dsimp only at g0 g1 g2
    have v0 := alw g0
    have v1 := alw g1
    have v2 := alw g2
    have HX := Lh hx
    have bx := aH wr (.cells #[.int .i64 x1, .int .i64 x2, .int .i64 x3] 188)
    have qk0 := alw (cQ 0 bx)
    have qk1 := alw (cQ 1 bx)
    have qk2 := alw (cQ 2 bx)
    clear bx
    have HKC := Lh (Tj.kindK_cons (c := g) hx)
    clear hx g0 g1 g2
    by_cases h3 : x3 = 3
    ·subst h3
     have HE2 : Hid (R = 3) := Lh (by rw [HE.out, ← HZ.out.2, HKC.out]; rfl)
     go_wp2_with fail
     go_ret
     exact ⟨ret_int (by rw [HE2.out]), grows⟩
    ·have e3 : (x3 == 3) = false := bF (by omega)
     by_cases h2 : x3 = 2
     ·subst h2
      have HN2 : Hid (Tj.kindK 2 (x.ks.drop (k + 1)) = Tj.kindK 1 x.ks) := Lh (by rw [← HZ.out.2, HKC.out]; rfl)
      clear h3 e3
      go_wp2_with fail
      go_roundw
      case rel => exact ⟨k + 1, by omega, by go_num, 2, rfl, Lh ⟨grows, HN2.out⟩⟩
      case measure => simp [intOf]; omega
     ·have e2 : (x3 == 2) = false := bF (by omega)
      have HN2 : Hid (Tj.kindK g (x.ks.drop (k + 1)) = Tj.kindK 1 x.ks) := Lh (by rw [← HZ.out.2, HKC.out, if_neg h3, if_neg h2])
      clear h3 h2
      go_wp2_with fail
      go_roundw
      case rel => exact ⟨k + 1, by omega, by go_num, g, rfl, Lh ⟨grows, HN2.out⟩⟩
      case measure => simp [intOf]; omega
   ·obtain rfl : k = x.ks.length := by omega
    have HE2 : Hid (R = g) := Lh (by have h := HZ.out.2; rw [List.drop_length] at h; rw [HE.out, ← h]; rfl)
    go_wp2_with fail
    go_ret
    exact ⟨ret_int (by rw [HE2.out]), grows⟩
 ·rw [if_neg h0] at hR
  have hv : (Tj.tabI F t == 0) = false := bF h0
  rw [hv] at HV
  have HE := Lh hR
  clear hR h0 hv hts
  go_enter Tryz.func98, Tryz.ntmps98
  go_wp2_with fail
  refine via (HV.out _ grows) fun w3 x3 s3 => ?_
  go_wp2_with fail
  go_ret
  exact ⟨ret_int (by rw [HE.out]), grows⟩
namespace Tj
/-- a program in memory, with a control flow of a size that can be counted -/
def IsG (w : World) (p : Pg.PV) (F : FP) : Prop := IsF w p F ∧ F.cs.length ≤ 1048576 ∧ Pg.CapP p
theorem IsG.ext {w w' : World} {p : Pg.PV} {F : FP} (h : IsG w p F) (hx : Ext w w') : IsG w' p F := ⟨h.1.ext hx, h.2⟩
theorem flat_cons (x : NT) (l : List NT) : flat (x :: l) = x.d :: (x.tl ++ x.el) ++ flat l := rfl
theorem flat_snoc (l : List NT) (x : NT) : flat (l ++ [x]) = flat l ++ (x.d :: (x.tl ++ x.el)) := by
 unfold flat; rw [List.flatMap_append]; simp [NT.all]
theorem flat_take {ns : List NT} {k : Nat} {x : NT} (h : ns[k]? = some x) : flat (ns.take (k + 1)) = flat (ns.take k) ++ (x.d :: (x.tl ++ x.el)) := by
 rw [List.take_add_one, h]; exact flat_snoc _ _
theorem flat_split {ns : List NT} {k : Nat} {x : NT} (h : ns[k]? = some x) : flat ns = flat (ns.take k) ++ (x.d :: (x.tl ++ x.el)) ++ flat (ns.drop (k + 1)) := by
 obtain ⟨hlt, e⟩ := List.getElem?_eq_some_iff.1 h
 have h1 : ns = (ns.take k ++ [x]) ++ ns.drop (k + 1) := by
  rw [List.append_assoc, ← e, List.singleton_append, List.getElem_cons_drop, List.take_append_drop]
 have h2 : flat ns = flat ((ns.take k ++ [x]) ++ ns.drop (k + 1)) := by rw [← h1]
 rw [h2]
 show (List.flatMap NT.all ((ns.take k ++ [x]) ++ ns.drop (k + 1))) = _
 rw [List.flatMap_append]
 show flat (ns.take k ++ [x]) ++ flat (ns.drop (k + 1)) = _
 rw [flat_snoc]
theorem nodes_at {n : Nat} {w : World} {b o q c : Nat} {ns : List NT} {oa : Option Addr} (h : Rows w 5 (NodeR n) (.slice oa q c) ns) (k : Nat) (x : NT) (hk : ns[k]? = some x) (hoa : oa = some ⟨b, o, none⟩) :
 ∃ ca cc ta tn tc ea en ec, (B64 x.d.k ∧ B64 x.d.t) ∧ Exp w (.slice ca x.d.c.length cc) x.d.c ∧ Ctl n w (.slice ta tn tc) x.tl x.tn x.d.th ∧ Ctl n w (.slice ea en ec) x.el x.en x.d.el ∧ (tn = x.d.th ∧ en = x.d.el) ∧
  w.cell? ⟨b, o + k * 5, none⟩ = some (.int .i64 x.d.k) ∧ w.cell? ⟨b, o + k * 5 + 1, none⟩ = some (.int .i64 x.d.t) ∧ w.cell? ⟨b, o + k * 5 + 2, none⟩ = some (.slice ca x.d.c.length cc) ∧
  w.cell? ⟨b, o + k * 5 + 3, none⟩ = some (.slice ta tn tc) ∧ w.cell? ⟨b, o + k * 5 + 4, none⟩ = some (.slice ea en ec) := by
 obtain ⟨b', o', e, _, h4⟩ := h.at (by have := (List.getElem?_eq_some_iff.1 hk).1; omega)
 rw [hoa] at e
 simp only [Option.some.injEq, Addr.mk.injEq, and_true] at e
 obtain ⟨rfl, rfl⟩ := e
 obtain ⟨cs, _, ⟨cv, tv, ev, rfl, h1, h2, h3, h5⟩, hc⟩ := h4 k x hk
 obtain ⟨ca, cc, rfl, _⟩ := h2.slice
 obtain ⟨ta, tc, rfl, _⟩ := h3.slice
 obtain ⟨ea, ec, rfl, _⟩ := h5.slice
 exact ⟨ca, cc, ta, _, tc, ea, _, ec, h1, h2, h3, h5, ⟨rfl, rfl⟩, hc 0 _ rfl, hc 1 _ rfl, hc 2 _ rfl, hc 3 _ rfl, hc 4 _ rfl⟩
def mx (l : List Nat) : Nat := l.foldr max 0
theorem mx_snoc (l : List Nat) (x : Nat) : mx (l ++ [x]) = max (mx l) x := by
 unfold mx
 induction l with
 | nil => simp
 | cons y l ih => simp only [List.cons_append, List.foldr_cons, ih]; omega
theorem mx_take {ns : List NT} {k : Nat} {x : NT} (h : ns[k]? = some x) : mx ((ns.take (k + 1)).map NT.nest) = max (mx ((ns.take k).map NT.nest)) (max x.tn x.en) := by
 rw [List.take_add_one, h]
 show mx ((ns.take k ++ [x]).map NT.nest) = _
 rw [List.map_append]; exact mx_snoc _ _
theorem deep_eq {ns : List NT} (h : ns ≠ []) : deep ns = 1 + mx (ns.map NT.nest) := by unfold deep mx; rw [if_neg h]
end Tj
/-- the boxes of nodes are kept -/
def KeepN (w w' : World) : Prop := ∀ (k : Nat) (c : Array Value) (f : Nat × Nat), w.heap[k]? = some (.cells c 101 f) → w'.heap[k]? = some (.cells c 101 f)
theorem KeepN.refl (w : World) : KeepN w w := fun _ _ _ h => h
theorem KeepN.trans {a b c : World} (h : KeepN a b) (g : KeepN b c) : KeepN a c := fun k c f hk => g k c f (h k c f hk)
theorem KeepN.of_ext {a b : World} (h : Ext a b) : KeepN a b := fun _ _ _ hk => h.heap hk
theorem KeepN.set {w : World} {p o : Nat} {c : Array Value} {t : TypeId} {f : Nat × Nat} (h : w.heap[p]? = some (.cells c t f)) (hne : t ≠ 101) (v : Value) : KeepN w (w.setCell ⟨p, o, none⟩ v) := fun k c' f' hk => by
 have hkp : k ≠ p := by
  intro e; subst e; rw [h] at hk; simp only [Option.some.injEq, Obj.cells.injEq] at hk; exact hne hk.2.1
 rw [Below.heap_setCell _ _ _ _ (by first | exact hkp | exact fun e => hkp e.symm)]; exact hk
theorem run_max3 {P : Program} (w : World) (ts : Array TypeId) (t : TypeId) (x y z : Int) : (Builtin.max_ ts t #[.int .i64 x, .int .i64 y, .int .i64 z]).run P w = .ok (.int .i64 (max x (max y z))) w := by
 have e : ∀ a b : Int, (if b > a then b else a) = max a b := fun a b => by
  rw [Int.max_def]
  split <;> split <;> omega
 have e3 : max (max x y) z = max x (max y z) := by omega
 simp [Builtin.max_, Builtin.max2, e, e3]
/-- Count's variable holds n -/
def CntS (W : World) (cb : Nat) (n : Nat) (w : World) : Prop := Ext W w ∧ W.heap.size ≤ cb ∧ w.heap[cb]? = some (.cells #[.int .i64 n] 3 (0, 0))
theorem count1_any {W w : World} {cb n : Nat} (h : CntS W cb n w) (hn : n ≤ 1048576) (v0 v1 v2 v3 v4 : Value) : Calls Tryz.prog 116 #[.agg #[v0, v1, v2, v3, v4], .pointer (some ⟨cb, 0, none⟩)] w fun e w' => e = .returned (.bool true) ∧ CntS W cb (n + 1) w' ∧ KeepN w w' := by
 obtain ⟨hx, hb, hc⟩ := h
 have c0 := alw (cQ 0 hc)
 have f0 := alwF (o := 0) hc
 have hcb : cb < w.heap.size := lt_of_block hc
 have HC := Lh hc
 have HX := Lh hx
 clear hc hx
 go_enter Tryz.func116, Tryz.ntmps116
 go_wp2_with fail
 go_ret
 exact ⟨rfl, ⟨(HX.out.setCell hb _).alloc _, hb, ((eR _).alloc _).heap (by rw [setCell_heap HC.out]; simp)⟩, (KeepN.set HC.out (by decide) _).trans (KeepN.of_ext ((eR _).alloc _))⟩
abbrev Yq4 (x : Tj.NT) (ca : Option Addr) (cc : Nat) (ta : Option Addr) (tc : Nat) (ea : Option Addr) (ec : Nat) : Array Value := #[.int .i64 x.d.k, .int .i64 x.d.t, .slice ca x.d.c.length cc, .slice ta x.d.th tc, .slice ea x.d.el ec]
theorem precount_any {W : World} {cb : Nat} : ∀ (n : Nat) (v : Value) (l : List Tj.CN) (d m : Nat), Tj.Ctl n W v l d m → ∀ (i : Nat) (w : World), CntS W cb i w → i + l.length ≤ 1048576 →
 Calls Tryz.prog 81 #[v, .func (.func 116) #[] #[.pointer (some ⟨cb, 0, none⟩)]] w fun e w' => e = .returned (.bool true) ∧ CntS W cb (i + l.length) w' ∧ KeepN w w' := by
 intro n
 induction n with
 | zero => intro v l d m h; exact h.elim
 | succ n ih =>
  intro v l d m h i w hs hil
  rw [Tj.ctl_succ] at h
  obtain ⟨ns, hns, rfl, rfl, rfl⟩ := h
  obtain ⟨oa, c, rfl, hlc, hcm⟩ := hns.slice
  unfold maxLen at hcm
  have HNS := Lh hns
  have HIH := Lh ih
  have HS := Lh hs
  clear hns ih hs
  go_enter Tryz.func81, Tryz.ntmps81
  go_wp2_with fail
  go_loopw [9] (fun q wr => ∃ k : Nat, k ≤ ns.length ∧ q = .int .i64 k ∧ Hid (CntS W cb (i + (Tj.flat (ns.take k)).length) wr ∧ KeepN w wr)) (fun q _ => ns.length - (intOf q).toNat)
  case atStart => exact ⟨0, Nat.zero_le _, rfl, Lh ⟨HS.out, KeepN.refl _⟩⟩
  case round =>
   obtain ⟨k, hk1, rfl, HZ⟩ := hrel
   have sx : Step W wr := ⟨HZ.out.1.1⟩
   by_cases hlt : k < ns.length
   ·obtain ⟨x, hk⟩ : ∃ x, ns[k]? = some x := ⟨_, gE hlt⟩
    obtain ⟨b, o, rfl, _, _⟩ := Rows.at HNS.out (by omega)
    obtain ⟨ca, cc, ta, tn, tc, ea, en, ec, _, hcx, htl, hel, ⟨rfl, rfl⟩, g0, g1, g2, g3, g4⟩ := Tj.nodes_at HNS.out k x hk rfl
    have y0 := alw g0
    have y1 := alw g1
    have y2 := alw g2
    have y3 := alw g3
    have y4 := alw g4
    have hft := Tj.flat_take hk
    have hsp := Tj.flat_split hk
    have hlen : (Tj.flat (ns.take k)).length + (1 + (x.tl.length + x.el.length)) ≤ (Tj.flat ns).length := by
     rw [hsp]; simp only [List.length_append, List.length_cons]; omega
    have hlt' : (Tj.flat (ns.take (k + 1))).length = (Tj.flat (ns.take k)).length + (1 + (x.tl.length + x.el.length)) := by
     rw [hft]; simp only [List.length_append, List.length_cons]; omega
    have HL := Lh hlen
    have HLT := Lh hlt'
    have HTL := Lh (fun i w h1 h2 => HIH.out _ _ _ _ htl i w h1 h2)
    have HEL := Lh (fun i w h1 h2 => HIH.out _ _ _ _ hel i w h1 h2)
    obtain ⟨fl, hfl⟩ : ∃ z, z = (Tj.flat (ns.take k)).length := ⟨_, rfl⟩
    rw [← hfl] at HL HLT HZ
    have bx := aH wr (.cells (Yq4 x ca cc ta tc ea ec) 101)
    clear bx
    have bn := aH wr (.cells (Yq4 x ca cc ta tc ea ec) 101)
    have BN := Lh bn
    have m0 := alw (cQ 0 bn)
    have m1 := alw (cQ 1 bn)
    have m2 := alw (cQ 2 bn)
    have m3 := alw (cQ 3 bn)
    have m4 := alw (cQ 4 bn)
    have HC1 : Hid (CntS W cb (i + fl) (wr.alloc (.cells (Yq4 x ca cc ta tc ea ec) 101))) := Lh ⟨HZ.out.1.1.alloc _, HZ.out.1.2.1, ((eR wr).alloc _).heap HZ.out.1.2.2⟩
    clear bn hk hcx htl hel g0 g1 g2 g3 g4 hft hsp hlen hlt'
    go_wp2_with fail
    refine (count1_any HC1.out (by have := HL.out; omega) _ _ _ _ _).mono ?_
    rintro e w5 ⟨rfl, hs5, hk5⟩
    have h5 := hk5 _ _ _ BN.out
    have t3 : w5.cell? ⟨wr.heap.size, 3, none⟩ = some (.slice ta x.d.th tc) := cell_of h5
    have HS5 := Lh hs5
    have HK5 := Lh hk5
    have H5 := Lh h5
    clear hs5 hk5 h5
    go_wp2_with fail
    refine (HTL.out _ _ HS5.out (by have := HL.out; omega)).mono ?_
    rintro e w6 ⟨rfl, hs6, hk6⟩
    have h6 := hk6 _ _ _ H5.out
    have t4 : w6.cell? ⟨wr.heap.size, 4, none⟩ = some (.slice ea x.d.el ec) := cell_of h6
    have HS6 := Lh hs6
    have HK6 := Lh hk6
    clear hs6 hk6 h6
    go_wp2_with fail
    refine (HEL.out _ _ HS6.out (by have := HL.out; omega)).mono ?_
    rintro e w7 ⟨rfl, hs7, hk7⟩
    have HS7 := Lh hs7
    have HK7 := Lh hk7
    clear hs7 hk7
    go_wp2_with fail
    go_roundw
    case rel =>
     refine ⟨k + 1, by omega, by go_num, Lh ⟨?_, (HZ.out.2.trans (KeepN.of_ext ((eR _).alloc _))).trans ((HK5.out.trans HK6.out).trans HK7.out)⟩⟩
     have e : i + (Tj.flat (ns.take (k + 1))).length = i + fl + 1 + x.tl.length + x.el.length := by rw [HLT.out]; omega
     rw [e]; exact HS7.out
    case measure => simp [intOf]; omega
   ·obtain rfl : k = ns.length := by omega
    go_wp2_with fail
    go_ret
    refine ⟨rfl, ?_, HZ.out.2⟩
    have h := HZ.out.1
    rw [List.take_length] at h
    exact h
theorem count_any {W : World} {n : Nat} {v : Value} {l : List Tj.CN} {d m : Nat} (h : Tj.Ctl n W v l d m) (hl : l.length ≤ 1048576) : Calls Tryz.prog 79 #[v] W (Rets W (.int .i64 l.length)) := by
 obtain ⟨oa, c, rfl, _, _⟩ := h.slice
 have hb := aH W (.cells #[.int .i64 0] 3)
 have HP := Lh (precount_any (W := W) (cb := W.heap.size) n _ l d m h 0 (W.alloc (.cells #[.int .i64 0] 3)) ⟨(eR W).alloc _, Nat.le_refl _, hb⟩ (by omega))
 have hmf : ∀ (fn : Fn) (first cap : Array Value) (w : World), (Instr.makeFunc fn first cap).run Tryz.prog w = .ok (.func fn first cap) w := fun _ _ _ _ => rfl
 clear h hb
 go_enter Tryz.func79, Tryz.ntmps79
 go_wp2_with fail
 refine HP.out.mono ?_
 rintro e w5 ⟨rfl, ⟨hx, _, hc⟩, _⟩
 have c0 := cQ 0 hc
 rw [Nat.zero_add] at c0
 have HX := Lh hx
 clear hc hx
 go_wp2_with fail
 go_ret
 exact ⟨rfl, HX.out⟩
namespace Tj
theorem mx_le {l : List Nat} {B : Nat} (h : ∀ x ∈ l, x ≤ B) : mx l ≤ B := by
 unfold mx
 induction l with
 | nil => exact Nat.zero_le _
 | cons y l ih =>
  rw [List.foldr_cons]
  exact Nat.max_le.2 ⟨h y (by simp), ih (fun x hx => h x (by simp [hx]))⟩
theorem ctl_deep : ∀ {n : Nat} {w : World} {v : Value} {l : List CN} {d m : Nat}, Ctl n w v l d m → d ≤ l.length
 | 0, _, _, _, _, _, h => h.elim
 | n + 1, w, v, l, d, m, h => by
  rw [ctl_succ] at h
  obtain ⟨ns, h1, rfl, rfl, _⟩ := h
  by_cases h0 : ns = []
  ·subst h0; exact Nat.zero_le _
  ·rw [deep_eq h0]
   have hm : mx (ns.map NT.nest) ≤ (flat ns).length - 1 := by
    refine mx_le (fun y hy => ?_)
    obtain ⟨x, hx, rfl⟩ := List.mem_map.1 hy
    obtain ⟨k, hk, rfl⟩ := List.mem_iff_getElem.1 hx
    have hk' := gE hk
    rcases h1 with ⟨_, e⟩ | ⟨ad, c, _, _, _, _, h4⟩
    ·exact absurd e h0
    ·obtain ⟨cs, _, ⟨cv, tv, ev, _, _, _, g1, g2⟩, _⟩ := h4 k _ hk'
     have a1 := ctl_deep g1
     have a2 := ctl_deep g2
     have := flat_split hk'
     have hl : (flat ns).length = (flat (ns.take k)).length + (1 + ((ns[k]).tl.length + (ns[k]).el.length)) + (flat (ns.drop (k + 1))).length := by
      rw [this]; simp only [List.length_append, List.length_cons]; omega
     unfold NT.nest
     omega
   have hp : 0 < (flat ns).length := by
    cases ns with
    | nil => exact absurd rfl h0
    | cons x l => rw [flat_cons]; simp
   omega
end Tj
theorem nest_any {W : World} : ∀ (n : Nat) (v : Value) (l : List Tj.CN) (d m : Nat), Tj.Ctl n W v l d m → l.length ≤ 1048576 → ∀ w, Ext W w → Calls Tryz.prog 80 #[v] w (Rets w (.int .i64 d)) := by
 intro n
 induction n with
 | zero => intro v l d m h; exact h.elim
 | succ n ih =>
  intro v l d m h hl w hw
  have hdl := Tj.ctl_deep h
  rw [Tj.ctl_succ] at h
  obtain ⟨ns, hns, rfl, rfl, rfl⟩ := h
  obtain ⟨oa, c, rfl, hlc, hcm⟩ := hns.slice
  unfold maxLen at hcm
  have HNS := Lh hns
  have HIH := Lh ih
  have sw := Sm hw
  clear hns ih hw
  by_cases h0 : ns = []
  ·subst h0
   go_enter Tryz.func80, Tryz.ntmps80
   go_wp2_with fail
   go_ret
   exact ⟨rfl, eR _⟩
  ·have hpos : 0 < ns.length := List.length_pos_iff.2 h0
   have z0 : ((ns.length : Int) == 0) = false := bF (by omega)
   have hde := Tj.deep_eq h0
   rw [hde] at hdl
   have HDE := Lh hde
   obtain ⟨D, hD⟩ : ∃ z, z = Tj.mx (ns.map Tj.NT.nest) := ⟨_, rfl⟩
   rw [← hD] at hdl HDE
   have HD := Lh hD
   clear h0 hde hD
   go_enter Tryz.func80, Tryz.ntmps80
   go_wp2_with fail
   go_loopw [3, 11] (fun u q wr => ∃ k : Nat, k ≤ ns.length ∧ q = .int .i64 k ∧ ∃ b : Nat, u = .int .i64 b ∧ b ≤ D ∧ Hid (Ext w wr ∧ b = Tj.mx ((ns.take k).map Tj.NT.nest))) (fun _ q _ => ns.length - (intOf q).toNat)
   case atStart => exact ⟨0, Nat.zero_le _, rfl, 0, rfl, Nat.zero_le _, Lh ⟨eR _, rfl⟩⟩
   case round =>
    obtain ⟨k, hk1, rfl, b, rfl, hb, HZ⟩ := hrel
    have sx : Step w wr := ⟨HZ.out.1⟩
    by_cases hlt : k < ns.length
    ·obtain ⟨x, hk⟩ : ∃ x, ns[k]? = some x := ⟨_, gE hlt⟩
     obtain ⟨b', o, rfl, _, _⟩ := Rows.at HNS.out (by omega)
     obtain ⟨ca, cc, ta, tn, tc, ea, en, ec, _, hcx, htl, hel, ⟨rfl, rfl⟩, g0, g1, g2, g3, g4⟩ := Tj.nodes_at HNS.out k x hk rfl
     have y0 := alw g0
     have y1 := alw g1
     have y2 := alw g2
     have y3 := alw g3
     have y4 := alw g4
     have hsp := Tj.flat_split hk
     have hlen : (Tj.flat (ns.take k)).length + (1 + (x.tl.length + x.el.length)) ≤ (Tj.flat ns).length := by
      rw [hsp]; simp only [List.length_append, List.length_cons]; omega
     have hmt := Tj.mx_take hk
     have hmle : Tj.mx ((ns.take (k + 1)).map Tj.NT.nest) ≤ D := by
      rw [HD.out]
      refine Tj.mx_le (fun y hy => ?_)
      have hy2 : y ∈ ns.map Tj.NT.nest := by
       rw [List.map_take] at hy
       exact List.mem_of_mem_take hy
      have key : ∀ (l : List Nat) (y : Nat), y ∈ l → y ≤ Tj.mx l := by
       intro l
       induction l with
       | nil => intro y hy; cases hy
       | cons a l ih2 =>
        intro y hy
        show y ≤ max a (Tj.mx l)
        rcases List.mem_cons.1 hy with rfl | hy
        ·omega
        ·have := ih2 y hy; omega
      exact key _ y hy2
     have HMT := Lh hmt
     have HML := Lh hmle
     have HTL : Hid (∀ w, Ext W w → Calls Tryz.prog 80 #[.slice ta x.d.th tc] w (Rets w (.int .i64 x.tn))) := Lh (fun w h => HIH.out _ _ _ _ htl (by omega) w h)
     have HEL : Hid (∀ w, Ext W w → Calls Tryz.prog 80 #[.slice ea x.d.el ec] w (Rets w (.int .i64 x.en))) := Lh (fun w h => HIH.out _ _ _ _ hel (by omega) w h)
     have ht2 := Tj.ctl_deep htl
     have he2 := Tj.ctl_deep hel
     have bt : x.tn ≤ 1048576 := by omega
     have be : x.en ≤ 1048576 := by omega
     have bx := aH wr (.cells (Yq4 x ca cc ta tc ea ec) 101)
     have m0 := alw (cQ 0 bx)
     have m1 := alw (cQ 1 bx)
     have m2 := alw (cQ 2 bx)
     have m3 := alw (cQ 3 bx)
     have m4 := alw (cQ 4 bx)
     clear bx
     obtain ⟨r, hr⟩ : ∃ z, z = max b (max x.tn x.en) := ⟨_, rfl⟩
     have HR : Hid (r = Tj.mx ((ns.take (k + 1)).map Tj.NT.nest)) := Lh (by rw [hmt, hr, HZ.out.2])
     have hmax : ∀ w, (Builtin.max_ #[3, 3, 3] 3 #[.int .i64 (b : Int), .int .i64 (x.tn : Int), .int .i64 (x.en : Int)]).run Tryz.prog w = .ok (.int .i64 (r : Int)) w := fun w => by
      rw [run_max3, show max (b : Int) (max (x.tn : Int) (x.en : Int)) = (r : Int) by rw [hr]; omega]
     clear hk hcx htl hel g0 g1 g2 g3 g4 hsp hlen hmt hmle ht2 he2 hr
     go_wp2_with fail
     refine wp_region_later (W := (wr.alloc (.cells (Yq4 x ca cc ta tc ea ec) 101))) (by kernel_rfl) (by kernel_rfl) grows ?_
     repeat (go_big_quiet_step (fail))
     go_big_quiet_step (first | (go_at_call 80; exact Rets.later_at (HTL.out _ grows)) | fail)
     repeat (go_big_quiet_step (fail))
     go_big_quiet_step (first | (go_at_call 80; exact Rets.later_at (HEL.out _ grows)) | fail)
     repeat (go_big_quiet_step (fail))
     refine wpQuiet_nil ?_
     intro w9 hx9
     have s9 := Sm hx9
     go_wp2_with fail
     go_roundw
     case rel => exact ⟨k + 1, by omega, by go_num, r, rfl, by rw [HR.out]; exact HML.out, Lh ⟨grows, HR.out⟩⟩
     case measure => simp [intOf]; omega
    ·obtain rfl : k = ns.length := by omega
     have hbD : b = D := by rw [HZ.out.2, List.take_length, HD.out]
     subst hbD
     go_wp2_with fail
     go_ret
     exact ⟨ret_int (by rw [HDE.out]; omega), grows⟩
namespace Pl
open Tj
/-- a unit: its table or -1, its condition, its guards -/
structure Un where
 tb : Int
 cd : List EN
 gs : List (Int × Bool)
abbrev Gs := List (Int × Bool)
def un (x : CN) (gs : Gs) : Un := if x.k = 2 then ⟨-1, x.c, gs⟩ else ⟨x.t, [], gs⟩
/-- k nodes at the head of l, and what stands below them; what is left of l -/
def vis : Nat → Nat → List CN → Gs → Int → List Un × List CN
 | f + 1, k + 1, x :: l, gs, i =>
  let a := vis f x.th l (gs ++ [(i, true)]) (i + 1)
  let b := vis f x.el a.2 (gs ++ [(i, false)]) (i + 1 + a.1.length)
  let c := vis f k b.2 gs (i + 1 + a.1.length + b.1.length)
  (un x gs :: (a.1 ++ b.1 ++ c.1), c.2)
 | _, _, l, _, _ => ([], l)
/-- m trees, laid flat -/
inductive WF : Nat → List CN → Prop
 | nil : WF 0 []
 | cons {x : CN} {m : Nat} {a b c : List CN} : WF x.th a → WF x.el b → WF m c → WF (m + 1) (x :: (a ++ b ++ c))
theorem vis_nil (f : Nat) (l : List CN) (gs : Gs) (i : Int) : vis f 0 l gs i = ([], l) := by cases f <;> rfl
theorem vis_wf {m : Nat} {l : List CN} (h : WF m l) : ∀ (gs : Gs) (i : Int), ∃ us : List Un, us.length = l.length ∧ ∀ (f : Nat) (r : List CN), l.length ≤ f → vis f m (l ++ r) gs i = (us, r) := by
 induction h with
 | nil => intro gs i; exact ⟨[], rfl, fun f r _ => vis_nil f _ gs i⟩
 | @cons x m a b c _ _ _ iha ihb ihc =>
  intro gs i
  obtain ⟨ua, la, ha⟩ := iha (gs ++ [(i, true)]) (i + 1)
  obtain ⟨ub, lb, hb⟩ := ihb (gs ++ [(i, false)]) (i + 1 + ua.length)
  obtain ⟨uc, lc, hc⟩ := ihc gs (i + 1 + ua.length + ub.length)
  refine ⟨un x gs :: (ua ++ ub ++ uc), by simp [la, lb, lc], fun f r hf => ?_⟩
  simp only [List.length_cons, List.length_append] at hf
  obtain ⟨f, rfl⟩ : ∃ g, f = g + 1 := ⟨f - 1, by omega⟩
  rw [List.cons_append]
  show (let A := vis f x.th (a ++ b ++ c ++ r) (gs ++ [(i, true)]) (i + 1); let B := vis f x.el A.2 (gs ++ [(i, false)]) (i + 1 + A.1.length); let C := vis f m B.2 gs (i + 1 + A.1.length + B.1.length); (un x gs :: (A.1 ++ B.1 ++ C.1), C.2)) = _
  rw [show a ++ b ++ c ++ r = a ++ (b ++ (c ++ r)) by simp, ha f _ (by omega)]
  dsimp only
  rw [hb f _ (by omega)]
  dsimp only
  rw [hc f _ (by omega)]
/-- the units of m trees -/
def uns (m : Nat) (l : List CN) (gs : Gs) (i : Int) : List Un := (vis l.length m l gs i).1
theorem uns_of {m : Nat} {l : List CN} {gs : Gs} {i : Int} {us : List Un} (h : ∀ (f : Nat) (r : List CN), l.length ≤ f → vis f m (l ++ r) gs i = (us, r)) : uns m l gs i = us := by
 have := h l.length [] (Nat.le_refl _)
 rw [List.append_nil] at this
 unfold uns; rw [this]
theorem uns_vis {m : Nat} {l : List CN} (h : WF m l) (gs : Gs) (i : Int) : (uns m l gs i).length = l.length ∧ ∀ (f : Nat) (r : List CN), l.length ≤ f → vis f m (l ++ r) gs i = (uns m l gs i, r) := by
 obtain ⟨us, h1, h2⟩ := vis_wf h gs i
 rw [uns_of h2]; exact ⟨h1, h2⟩
theorem uns_nil (gs : Gs) (i : Int) : uns 0 [] gs i = [] := rfl
theorem uns_cons {x : CN} {m : Nat} {a b c : List CN} (ha : WF x.th a) (hb : WF x.el b) (hc : WF m c) (gs : Gs) (i : Int) :
 uns (m + 1) (x :: (a ++ b ++ c)) gs i = un x gs :: (uns x.th a (gs ++ [(i, true)]) (i + 1) ++ uns x.el b (gs ++ [(i, false)]) (i + 1 + a.length) ++ uns m c gs (i + 1 + a.length + b.length)) := by
 refine uns_of fun f r hf => ?_
 simp only [List.length_cons, List.length_append] at hf
 obtain ⟨f, rfl⟩ : ∃ g, f = g + 1 := ⟨f - 1, by omega⟩
 obtain ⟨la, va⟩ := uns_vis ha (gs ++ [(i, true)]) (i + 1)
 obtain ⟨lb, vb⟩ := uns_vis hb (gs ++ [(i, false)]) (i + 1 + a.length)
 obtain ⟨_, vc⟩ := uns_vis hc gs (i + 1 + a.length + b.length)
 rw [List.cons_append]
 show (let A := vis f x.th (a ++ b ++ c ++ r) (gs ++ [(i, true)]) (i + 1); let B := vis f x.el A.2 (gs ++ [(i, false)]) (i + 1 + A.1.length); let C := vis f m B.2 gs (i + 1 + A.1.length + B.1.length); (un x gs :: (A.1 ++ B.1 ++ C.1), C.2)) = _
 rw [show a ++ b ++ c ++ r = a ++ (b ++ (c ++ r)) by simp, va f _ (by omega)]
 dsimp only
 rw [la, vb f _ (by omega)]
 dsimp only
 rw [lb, vc f _ (by omega)]
theorem WF.app {k m : Nat} {a b : List CN} (ha : WF k a) (hb : WF m b) : WF (k + m) (a ++ b) := by
 induction ha with
 | nil => rw [Nat.zero_add]; exact hb
 | @cons x k a1 a2 a3 h1 h2 _ _ _ ih3 =>
  rw [show k + 1 + m = (k + m) + 1 by omega, show x :: (a1 ++ a2 ++ a3) ++ b = x :: (a1 ++ a2 ++ (a3 ++ b)) by simp]
  exact .cons h1 h2 ih3
theorem uns_app {k m : Nat} {a b : List CN} (ha : WF k a) (hb : WF m b) : ∀ (gs : Gs) (i : Int), uns (k + m) (a ++ b) gs i = uns k a gs i ++ uns m b gs (i + a.length) := by
 induction ha with
 | nil => intro gs i; rw [Nat.zero_add, uns_nil]; simp
 | @cons x k a1 a2 a3 h1 h2 h3 _ _ ih3 =>
  intro gs i
  rw [show k + 1 + m = (k + m) + 1 by omega, show x :: (a1 ++ a2 ++ a3) ++ b = x :: (a1 ++ a2 ++ (a3 ++ b)) by simp, uns_cons h1 h2 (h3.app hb), uns_cons h1 h2 h3, ih3]
  rw [show i + 1 + (a1.length : Int) + a2.length + a3.length = i + ((x :: (a1 ++ a2 ++ a3)).length : Nat) by simp only [List.length_cons, List.length_append]; omega]
  simp
theorem uns_one {x : CN} {a b : List CN} (ha : WF x.th a) (hb : WF x.el b) (gs : Gs) (i : Int) : uns 1 (x :: (a ++ b)) gs i = un x gs :: (uns x.th a (gs ++ [(i, true)]) (i + 1) ++ uns x.el b (gs ++ [(i, false)]) (i + 1 + a.length)) := by
 have h := uns_cons ha hb .nil gs i
 rw [List.append_nil, uns_nil, List.append_nil] at h; exact h
theorem WF.one {x : CN} {a b : List CN} (ha : WF x.th a) (hb : WF x.el b) : WF 1 (x :: (a ++ b)) := by
 have h := WF.cons ha hb .nil
 rw [List.append_nil] at h; exact h
theorem flat_wf : ∀ (ns : List NT), (∀ x ∈ ns, WF x.d.th x.tl ∧ WF x.d.el x.el) → WF ns.length (flat ns)
 | [], _ => .nil
 | x :: ns, h => by
  rw [flat_cons, List.length_cons]
  have h0 := h x List.mem_cons_self
  have h1 := flat_wf ns (fun y hy => h y (List.mem_cons_of_mem _ hy))
  rw [show x.d :: (x.tl ++ x.el) ++ flat ns = x.d :: (x.tl ++ x.el ++ flat ns) by simp]
  exact .cons h0.1 h0.2 h1
theorem ctl_wf : ∀ {n : Nat} {w : World} {v : Value} {l : List CN} {d m : Nat}, Ctl n w v l d m → WF m l
 | 0, _, _, _, _, _, h => h.elim
 | n + 1, w, v, l, d, m, h => by
  rw [ctl_succ] at h
  obtain ⟨ns, h1, rfl, _, rfl⟩ := h
  refine flat_wf ns fun x hx => ?_
  obtain ⟨i, hi⟩ := List.getElem?_of_mem hx
  rcases h1 with ⟨_, rfl⟩ | ⟨ad, c, _, _, _, _, h4⟩
  ·simp at hi
  ·obtain ⟨_, _, ⟨cv, tv, ev, _, _, _, g4, g5⟩, _⟩ := h4 i x hi
   exact ⟨ctl_wf g4, ctl_wf g5⟩
end Pl
end Go.Proofs.YtkiafiaodockbaaGreat
