/- The law's TooLarge: it returns some answer. Transactions: TooLarge, walked. slices.Equal of integers, walked on equal data. The store's equalCalls, walked on equal data. Equal of entries and the store's equalRows, walked on equal data. The store's Equal of configurations, walked on equal data. The small program: its data; SmallProgram, walked. The fixed results: journalWorks, walked. A log and the states that its transactions lead to: plain facts, and its contracts as the law uses them. No condition. -/
import Derived.Test.YthmokhkkdgnbhaaGreatJqAS
import Derived.BigQuiet
set_option maxRecDepth 8000
set_option maxHeartbeats 16000000
namespace Go.Proofs.YthmokhkkdgnbhaaGreat
open Go.RowKit
/-- some answer -/
def SomeB (W : World) (e : Ending) (w' : World) : Prop := ∃ b, e = .returned (.bool b) ∧ Ext W w'
theorem large26_any {W : World} {p : Pg.PV} {F : Tj.FP} (hF : Tj.IsF W p F) : Calls Tryz.prog 13 #[p.val, .agg (Yq5 )] W (SomeB W) := by
 obtain ⟨a1, a2, a3, a4, a5, a6, a7, a8, m1, m2, m3, m4, m5, m6, n7, m7, m8, hf⟩ := hF.form
 obtain ⟨rfl, hnm, hhs, hmd, hrs, has, hts, hss, hct, hdp, l1, l2, l3, l4, l5, l6, l7, l8⟩ := hf
 dsimp only [Pg.PV.val] at *
 have HAS := Lh has
 clear hF hnm hhs hmd hrs has hts hss hct hdp
 have bx := aH W (.cells (Yq0 F a1 m1 a2 m2 a3 m3 a4 m4 a5 m5 a6 m6 a7 m7 n7 a8 m8) 31)
 have k0 := alw (cQ 0 bx)
 have k1 := alw (cQ 1 bx)
 have k2 := alw (cQ 2 bx)
 have k3 := alw (cQ 3 bx)
 have k4 := alw (cQ 4 bx)
 have k5 := alw (cQ 5 bx)
 have k6 := alw (cQ 6 bx)
 have k7 := alw (cQ 7 bx)
 have k8 := alw (cQ 8 bx)
 clear bx
 have b2 := aH (W.alloc (.cells (Yq0 F a1 m1 a2 m2 a3 m3 a4 m4 a5 m5 a6 m6 a7 m7 n7 a8 m8) 31)) (.cells (Yq5 ) 45)
 rw [szA] at b2
 have j0 := alw (cQ 0 b2)
 have j3 := alw (cQ 3 b2)
 clear b2
 go_enter Tryz.func13, Tryz.ntmps13
 go_wp2_with fail
 go_loopw [5, 7] (fun m q wr => m = .int .i64 0 ∧ q = .int .i64 0 ∧ Hid (Ext ((W.alloc (.cells (Yq0 F a1 m1 a2 m2 a3 m3 a4 m4 a5 m5 a6 m6 a7 m7 n7 a8 m8) 31)).alloc (.cells (Yq5 ) 45)) wr)) (fun _ _ _ => 0)
 case atStart => exact ⟨rfl, rfl, Lh (eR _)⟩
 case round =>
  obtain ⟨rfl, rfl, HX⟩ := hrel
  have sx := Sm HX.out
  have HXW : Hid (Ext W wr) := Lh ((grows (a := W) (b := ((W.alloc (.cells (Yq0 F a1 m1 a2 m2 a3 m3 a4 m4 a5 m5 a6 m6 a7 m7 n7 a8 m8) 31)).alloc (.cells (Yq5 ) 45)))).trans HX.out)
  have sw := Sm HXW.out
  go_wp2_with fail
  go_loopw [6, 8] (fun m q wz => ∃ k : Nat, k ≤ F.ac.length ∧ q = .int .i64 k ∧ (∃ z : Int, m = .int .i64 z) ∧ Hid (Ext wr wz)) (fun _ q _ => F.ac.length - (intOf q).toNat)
  case atStart => exact ⟨0, Nat.zero_le _, rfl, ⟨0, rfl⟩, Lh (eR _)⟩
  case round =>
   obtain ⟨k, hk, rfl, ⟨z, rfl⟩, HX2⟩ := hrel
   have sz := Sm HX2.out
   by_cases hlt : k < F.ac.length
   ·obtain ⟨x, hx⟩ : ∃ u, F.ac[k]? = some u := ⟨_, gE hlt⟩
    obtain ⟨p1, o1, rfl, _, _⟩ := Rows.at HAS.out (by omega)
    obtain ⟨pa, pc, ba, bc, hn, hps, hbd, _, _, u0, u1, u2⟩ := acts_at HAS.out k x hx rfl
    have y2 := alw u2
    have ql : ¬ ((F.ac.length : Int) ≤ k) := by omega
    clear hx hn hps hbd u0 u1 u2
    go_wp2_with fail
    go_roundw
    case rel => exact ⟨k + 1, by omega, by go_num, ⟨_, rfl⟩, HX2⟩
    case measure => simp [intOf]; omega
   ·obtain rfl : k = F.ac.length := by omega
    by_cases q0 : (60 : Int) < z
    ·have g0 : decide ((60 : Int) < z) = true := dTt q0
     go_wp2_with fail
     go_ret
     exact ⟨_, rfl, grows⟩
    ·have g0 : decide ((60 : Int) < z) = false := dF q0
     by_cases q1 : (12 : Int) < (F.P.hs.length : Int)
     ·have g1 : decide ((12 : Int) < (F.P.hs.length : Int)) = true := dTt q1
      go_wp2_with fail
      go_ret
      exact ⟨_, rfl, grows⟩
     ·have g1 : decide ((12 : Int) < (F.P.hs.length : Int)) = false := dF q1
      by_cases q2 : (16 : Int) < (F.ts.length : Int)
      ·have g2 : decide ((16 : Int) < (F.ts.length : Int)) = true := dTt q2
       go_wp2_with fail
       go_ret
       exact ⟨_, rfl, grows⟩
      ·have g2 : decide ((16 : Int) < (F.ts.length : Int)) = false := dF q2
       by_cases q3 : (16 : Int) < (F.ss.length : Int)
       ·have g3 : decide ((16 : Int) < (F.ss.length : Int)) = true := dTt q3
        go_wp2_with fail
        go_ret
        exact ⟨_, rfl, grows⟩
       ·have g3 : decide ((16 : Int) < (F.ss.length : Int)) = false := dF q3
        by_cases q4 : (30 : Int) < (n7 : Int)
        ·have g4 : decide ((30 : Int) < (n7 : Int)) = true := dTt q4
         go_wp2_with fail
         go_ret
         exact ⟨_, rfl, grows⟩
        ·have g4 : decide ((30 : Int) < (n7 : Int)) = false := dF q4
         go_wp2_with fail
         go_ret
         exact ⟨_, rfl, grows⟩
/-- a list of transactions in memory -/
def OpsR (w : World) (cs : List Value) (l : List Tj.TOp) : Prop := ∃ v, cs = [v] ∧ Rows w 9 Tj.TOpR v l
theorem OpsR.ext {w w' : World} {cs : List Value} {l : List Tj.TOp} (h : OpsR w cs l) (hx : Ext w w') : OpsR w' cs l := by
 obtain ⟨v, h1, h2⟩ := h; exact ⟨v, h1, h2.ext (fun _ _ h => h.ext hx) hx⟩
def LargeP (W : World) (n : Nat) (e : Ending) (w' : World) : Prop := ∃ b, e = .returned (.bool b) ∧ Ext W w' ∧ (b = false → n ≤ 10)
abbrev Yq10 (F : Tj.FP) (a1 : Option Addr) (m1 : Nat) (a2 : Option Addr) (m2 : Nat) (a3 : Option Addr) (m3 : Nat) (a4 : Option Addr) (m4 : Nat) (a5 : Option Addr) (m5 : Nat) (a6 : Option Addr) (m6 : Nat) (a7 : Option Addr) (m7 : Nat) (n7 : Nat) (a8 : Option Addr) (m8 : Nat) (la : Option Addr) (lc : Nat) (T_length : Nat) : Array Value := #[.string F.nm, .slice a1 F.P.hs.length m1, .slice a2 F.P.md.length m2, .slice a3 F.rs.length m3, .slice a4 F.ac.length m4, .slice a5 F.ts.length m5, .slice a6 F.ss.length m6, .slice a7 n7 m7, .slice a8 F.P.dp.length m8, .slice la T_length lc]
theorem large_any {W : World} {F : Tj.FP} {a1 a2 a3 a4 a5 a6 a7 a8 la : Option Addr} {m1 m2 m3 m4 m5 m6 n7 m7 m8 lc : Nat} {T : List (List Tj.TOp)} (hF : Tj.IsF W ⟨.string F.nm, .slice a1 F.P.hs.length m1, .slice a2 F.P.md.length m2, .slice a3 F.rs.length m3, .slice a4 F.ac.length m4, .slice a5 F.ts.length m5, .slice a6 F.ss.length m6, .slice a7 n7 m7, .slice a8 F.P.dp.length m8⟩ F) (hl : Rows W 1 OpsR (.slice la T.length lc) T) : Calls Tryz.prog 4 #[.agg (Yq10 F a1 m1 a2 m2 a3 m3 a4 m4 a5 m5 a6 m6 a7 m7 n7 a8 m8 la lc T.length)] W (LargeP W T.length) := by
 have HLG := Lh (fun (w : World) (hw : Ext W w) => large26_any (p := ⟨.string F.nm, .slice a1 F.P.hs.length m1, .slice a2 F.P.md.length m2, .slice a3 F.rs.length m3, .slice a4 F.ac.length m4, .slice a5 F.ts.length m5, .slice a6 F.ss.length m6, .slice a7 n7 m7, .slice a8 F.P.dp.length m8⟩) (hF.ext hw))
 have HL := Lh hl
 have hlm : T.length ≤ 9223372036854775807 := by
  obtain ⟨_, _, _, h1, h2⟩ := Rows.slice hl
  unfold maxLen at h2; omega
 clear hF hl
 have b1 := aH W (.cells (Yq10 F a1 m1 a2 m2 a3 m3 a4 m4 a5 m5 a6 m6 a7 m7 n7 a8 m8 la lc T.length) 34)
 have k0 := alw (cQ 0 b1)
 have k1 := alw (cQ 1 b1)
 have k2 := alw (cQ 2 b1)
 have k3 := alw (cQ 3 b1)
 have k4 := alw (cQ 4 b1)
 have k5 := alw (cQ 5 b1)
 have k6 := alw (cQ 6 b1)
 have k7 := alw (cQ 7 b1)
 have k8 := alw (cQ 8 b1)
 have k9 := alw (cQ 9 b1)
 clear b1
 go_enter Tryz.func4, Tryz.ntmps4
 go_wp2_with fail
 go_loopw [3, 4] (fun m q wr => ∃ k : Nat, k ≤ T.length ∧ q = .int .i64 k ∧ (∃ z : Int, m = .int .i64 z) ∧ Hid (Ext (W.alloc (.cells (Yq10 F a1 m1 a2 m2 a3 m3 a4 m4 a5 m5 a6 m6 a7 m7 n7 a8 m8 la lc T.length) 34)) wr)) (fun _ q _ => T.length - (intOf q).toNat)
 case atStart => exact ⟨0, Nat.zero_le _, rfl, ⟨0, rfl⟩, Lh (eR _)⟩
 case round =>
  obtain ⟨k, hk, rfl, ⟨z, rfl⟩, HX⟩ := hrel
  have sx := Sm HX.out
  have HXW : Hid (Ext W wr) := Lh ((grows (a := W) (b := W.alloc (.cells (Yq10 F a1 m1 a2 m2 a3 m3 a4 m4 a5 m5 a6 m6 a7 m7 n7 a8 m8 la lc T.length) 34))).trans HX.out)
  have sw := Sm HXW.out
  by_cases hlt : k < T.length
  ·obtain ⟨x, hx⟩ : ∃ u, T[k]? = some u := ⟨_, gE hlt⟩
   obtain ⟨p1, o1, rfl, _, hat⟩ := Rows.at HL.out (by omega)
   obtain ⟨cs, _, ⟨v, rfl, hv⟩, hc⟩ := hat k x hx
   obtain ⟨va, vc, rfl, _⟩ := Rows.slice hv
   have t0 := hc 0 _ rfl
   rw [Nat.mul_one, Nat.add_zero] at t0
   have y0 := alw t0
   have ql : ¬ ((T.length : Int) ≤ k) := by omega
   clear hx hat hc hv t0
   go_wp2_with fail
   go_roundw
   case rel => exact ⟨k + 1, by omega, by go_num, ⟨_, rfl⟩, HX⟩
   case measure => simp [intOf]; omega
  ·obtain rfl : k = T.length := by omega
   go_wp2_with fail
   refine (HLG.out _ grows).mono ?_
   rintro e w5 ⟨b, rfl, x5⟩
   have s5 := Sm x5
   cases b with
   | true =>
    go_wp2_with fail
    go_ret
    exact ⟨_, rfl, grows, fun h => by cases h⟩
   | false =>
    by_cases q1 : (40 : Int) < z
    ·have g1 : decide ((40 : Int) < z) = true := dTt q1
     go_wp2_with fail
     go_ret
     exact ⟨_, rfl, grows, fun h => by cases h⟩
    ·have g1 : decide ((40 : Int) < z) = false := dF q1
     by_cases q2 : (10 : Int) < (T.length : Int)
     ·have g2 : decide ((10 : Int) < (T.length : Int)) = true := dTt q2
      go_wp2_with fail
      go_ret
      exact ⟨_, rfl, grows, fun h => by cases h⟩
     ·have g2 : decide ((10 : Int) < (T.length : Int)) = false := dF q2
      go_wp2_with fail
      go_ret
      exact ⟨_, rfl, grows, fun _ => by omega⟩
theorem sleq_int {W : World} {a b : Option Addr} {c d : Nat} {l : List Int} (ha : Tj.Is W (.slice a l.length c) l) (hb : Tj.Is W (.slice b l.length d) l) (hl : l.length ≤ 1073741824) : Calls Tryz.prog 33 #[.slice a l.length c, .slice b l.length d] W (Rets W (.bool true)) := by
 have HA := Lh ha
 have HB := Lh hb
 clear ha hb
 go_enter Tryz.func33, Tryz.ntmps33
 go_wp2_with fail
 go_loopw [13] (fun q wr => ∃ k : Nat, k ≤ l.length ∧ q = .int .i64 k ∧ Hid (Ext W wr)) (fun q _ => l.length - (intOf q).toNat)
 case atStart => exact ⟨0, Nat.zero_le _, rfl, Lh (eR _)⟩
 case round =>
  obtain ⟨k, hk, rfl, HX⟩ := hrel
  have sx := Sm HX.out
  by_cases hlt : k < l.length
  ·obtain ⟨x, hx⟩ : ∃ x, l[k]? = some x := ⟨_, gE hlt⟩
   obtain ⟨p1, o1, rfl, hat⟩ := Is.at HA.out (by omega)
   obtain ⟨p2, o2, rfl, hbt⟩ := Is.at HB.out (by omega)
   have y0 := alw (hat k x hx)
   have y1 := alw (hbt k x hx)
   have ql : ¬ ((l.length : Int) ≤ k) := by omega
   clear hx hat hbt
   go_wp2_with fail
   refine wp_region_later (W := wr) (by kernel_rfl) (by kernel_rfl) (eR _) ?_
   repeat (go_big_quiet_step (fail))
   refine wpQuiet_nil ?_
   intro w9 hx9
   have s9 := Sm hx9
   have HX9 := Lh (HX.out.trans hx9)
   clear hx9
   go_wp2_with fail
   go_roundw
   case rel => exact ⟨k + 1, by omega, by go_num, HX9⟩
   case measure => simp [intOf]; omega
  ·obtain rfl : k = l.length := by omega
   go_wp2_with fail
   go_ret
   exact ⟨rfl, HX.out⟩
theorem sleq_u32 {W : World} {a b : Option Addr} {c d : Nat} {l : List Int} (ha : Tj.Us W (.slice a l.length c) l) (hb : Tj.Us W (.slice b l.length d) l) (hl : l.length ≤ 1073741824) : Calls Tryz.prog 38 #[.slice a l.length c, .slice b l.length d] W (Rets W (.bool true)) := by
 have HA := Lh ha
 have HB := Lh hb
 clear ha hb
 go_enter Tryz.func38, Tryz.ntmps38
 go_wp2_with fail
 go_loopw [13] (fun q wr => ∃ k : Nat, k ≤ l.length ∧ q = .int .i64 k ∧ Hid (Ext W wr)) (fun q _ => l.length - (intOf q).toNat)
 case atStart => exact ⟨0, Nat.zero_le _, rfl, Lh (eR _)⟩
 case round =>
  obtain ⟨k, hk, rfl, HX⟩ := hrel
  have sx := Sm HX.out
  by_cases hlt : k < l.length
  ·obtain ⟨x, hx⟩ : ∃ x, l[k]? = some x := ⟨_, gE hlt⟩
   obtain ⟨p1, o1, rfl, hat⟩ := Us.at HA.out (by omega)
   obtain ⟨p2, o2, rfl, hbt⟩ := Us.at HB.out (by omega)
   have y0 := alw (hat k x hx)
   have y1 := alw (hbt k x hx)
   have ql : ¬ ((l.length : Int) ≤ k) := by omega
   clear hx hat hbt
   go_wp2_with fail
   refine wp_region_later (W := wr) (by kernel_rfl) (by kernel_rfl) (eR _) ?_
   repeat (go_big_quiet_step (fail))
   refine wpQuiet_nil ?_
   intro w9 hx9
   have s9 := Sm hx9
   have HX9 := Lh (HX.out.trans hx9)
   clear hx9
   go_wp2_with fail
   go_roundw
   case rel => exact ⟨k + 1, by omega, by go_num, HX9⟩
   case measure => simp [intOf]; omega
  ·obtain rfl : k = l.length := by omega
   go_wp2_with fail
   go_ret
   exact ⟨rfl, HX.out⟩
theorem steqcalls_any {W : World} {a b : Option Addr} {c d : Nat} {x : Tj.Call} (ha : Tj.Us W (.slice a x.ar.length c) x.ar) (hb : Tj.Us W (.slice b x.ar.length d) x.ar) (hl : x.ar.length ≤ 1073741824) : Calls Tryz.prog 35 #[.agg #[.int .i64 x.a, .slice a x.ar.length c], .agg #[.int .i64 x.a, .slice b x.ar.length d]] W (Rets W (.bool true)) := by
 have HE := Lh (fun (w : World) (hw : Ext W w) => sleq_u32 (ha.ext hw) (hb.ext hw) hl)
 have b1 := aH W (.cells #[.int .i64 x.a, .slice a x.ar.length c] 63)
 have k0 := alw (cQ 0 b1)
 have k1 := alw (cQ 1 b1)
 have b2 := aH (W.alloc (.cells #[.int .i64 x.a, .slice a x.ar.length c] 63)) (.cells #[.int .i64 x.a, .slice b x.ar.length d] 63)
 rw [szA] at b2
 have j0 := alw (cQ 0 b2)
 have j1 := alw (cQ 1 b2)
 clear ha hb b1 b2
 go_enter Tryz.func35, Tryz.ntmps35
 go_wp2_with fail
 refine via (HE.out _ grows) fun w1 x1 s1 => ?_
 go_wp2_with fail
 go_ret
 exact ⟨rfl, grows⟩
theorem eneq_u32 {W : World} {a b : Option Addr} {c d : Nat} {l : List Int} (ha : Tj.Us W (.slice a l.length c) l) (hb : Tj.Us W (.slice b l.length d) l) (hl : l.length ≤ 1073741824) : Calls Tryz.prog 123 #[.slice a l.length c, .slice b l.length d] W (Rets W (.bool true)) := by
 have HA := Lh ha
 have HB := Lh hb
 clear ha hb
 go_enter Tryz.func123, Tryz.ntmps123
 go_wp2_with fail
 go_loopw [14] (fun q wr => ∃ k : Nat, k ≤ l.length ∧ q = .int .i64 k ∧ Hid (Ext W wr)) (fun q _ => l.length - (intOf q).toNat)
 case atStart => exact ⟨0, Nat.zero_le _, rfl, Lh (eR _)⟩
 case round =>
  obtain ⟨k, hk, rfl, HX⟩ := hrel
  have sx := Sm HX.out
  by_cases hlt : k < l.length
  ·obtain ⟨x, hx⟩ : ∃ x, l[k]? = some x := ⟨_, gE hlt⟩
   obtain ⟨p1, o1, rfl, hat⟩ := Us.at HA.out (by omega)
   obtain ⟨p2, o2, rfl, hbt⟩ := Us.at HB.out (by omega)
   have y0 := alw (hat k x hx)
   have y1 := alw (hbt k x hx)
   have ql : ¬ ((l.length : Int) ≤ k) := by omega
   clear hx hat hbt
   go_wp2_with fail
   go_roundw
   case rel => exact ⟨k + 1, by omega, by go_num, HX⟩
   case measure => simp [intOf]; omega
  ·obtain rfl : k = l.length := by omega
   go_wp2_with fail
   go_ret
   exact ⟨rfl, HX.out⟩
theorem Tj.sameK_refl (x : Tj.Ent) : Tj.sameK x x = true := Tj.sameK_yes rfl rfl (fun j y z _ h1 h2 => by rw [h1] at h2; cases h2; exact ⟨rfl, rfl⟩)
theorem entEq_any {W : World} {ka kb ga gb : Option Addr} {kc kd gc gd : Nat} {x : Tj.Ent} (ha : Tj.EntV W (.agg (Yq11 ka kc x ga gc)) x) (hb : Tj.EntV W (.agg (Yq22 kb kd x gb gd)) x) (hl : x.cl.ar.length ≤ 1073741824) : Calls Tryz.prog 75 #[.agg (Yq11 ka kc x ga gc), .agg (Yq22 kb kd x gb gd)] W (Rets W (.bool true)) := by
 have HK := Lh (fun (w : World) (hw : Ext W w) => by
  have h := samek_any (ha.ext hw) (hb.ext hw)
  rw [Tj.sameK_refl] at h; exact h)
 have HC := Lh (fun (w : World) (hw : Ext W w) => by
  obtain ⟨_, _, _, _, e1, _, _, h1⟩ := ha.form
  obtain ⟨_, _, _, _, e2, _, _, h2⟩ := hb.form
  simp only [Value.agg.injEq, Array.mk.injEq, List.cons.injEq, and_true] at e1 e2
  obtain ⟨_, _, _, e1⟩ := e1
  obtain ⟨_, _, _, e2⟩ := e2
  rw [← e1] at h1
  rw [← e2] at h2
  exact eneq_u32 (h1.ext hw) (h2.ext hw) hl)
 clear ha hb
 have b1 := aH W (.cells (Yq11 ka kc x ga gc) 65)
 have k0 := alw (cQ 0 b1)
 have k1 := alw (cQ 1 b1)
 have k2 := alw (cQ 2 b1)
 have k3 := alw (cQ 3 b1)
 have b2 := aH (W.alloc (.cells (Yq11 ka kc x ga gc) 65)) (.cells (Yq22 kb kd x gb gd) 65)
 rw [szA] at b2
 have j0 := alw (cQ 0 b2)
 have j1 := alw (cQ 1 b2)
 have j2 := alw (cQ 2 b2)
 have j3 := alw (cQ 3 b2)
 clear b1 b2
 go_enter Tryz.func75, Tryz.ntmps75
 go_wp2_with fail
 refine via (HK.out _ grows) fun w1 x1 s1 => ?_
 go_wp2_with fail
 refine via (HC.out _ grows) fun w2 x2 s2 => ?_
 go_wp2_with fail
 go_ret
 exact ⟨rfl, grows⟩
theorem eqrow1_any {W : World} {ka kb ga gb : Option Addr} {kc kd gc gd : Nat} {r : Tj.Rw} (ha : Tj.EntV W (.agg #[.slice ka r.e.ks.length kc, .int .i64 r.e.pr, .int .i64 r.e.cl.a, .slice ga r.e.cl.ar.length gc]) r.e) (hb : Tj.EntV W (.agg #[.slice kb r.e.ks.length kd, .int .i64 r.e.pr, .int .i64 r.e.cl.a, .slice gb r.e.cl.ar.length gd]) r.e) (hl : r.e.cl.ar.length ≤ 1073741824) : Calls Tryz.prog 74 #[.agg (Yq15 r ka kc ga gc), .agg #[.int .i64 r.id, .slice kb r.e.ks.length kd, .int .i64 r.e.pr, .int .i64 r.e.cl.a, .slice gb r.e.cl.ar.length gd]] W (Rets W (.bool true)) := by
 have HE := Lh (fun (w : World) (hw : Ext W w) => entEq_any (ha.ext hw) (hb.ext hw) hl)
 clear ha hb
 have b1 := aH W (.cells (Yq15 r ka kc ga gc) 151)
 have k0 := alw (cQ 0 b1)
 have k1 := alw (cQ 1 b1)
 have k2 := alw (cQ 2 b1)
 have k3 := alw (cQ 3 b1)
 have k4 := alw (cQ 4 b1)
 have b2 := aH (W.alloc (.cells (Yq15 r ka kc ga gc) 151)) (.cells #[.int .i64 r.id, .slice kb r.e.ks.length kd, .int .i64 r.e.pr, .int .i64 r.e.cl.a, .slice gb r.e.cl.ar.length gd] 151)
 rw [szA] at b2
 have j0 := alw (cQ 0 b2)
 have j1 := alw (cQ 1 b2)
 have j2 := alw (cQ 2 b2)
 have j3 := alw (cQ 3 b2)
 have j4 := alw (cQ 4 b2)
 clear b1 b2
 go_enter Tryz.func74, Tryz.ntmps74
 go_wp2_with fail
 refine via (HE.out _ grows) fun w1 x1 s1 => ?_
 go_wp2_with fail
 go_ret
 exact ⟨rfl, grows⟩
theorem eqfrows_any {W : World} {a b : Option Addr} {c d : Nat} {rs : List Tj.Rw} (ha : Tj.Rws W (.slice a rs.length c) rs) (hb : Tj.Rws W (.slice b rs.length d) rs) (hl : rs.length ≤ 1073741824) (hr : ∀ r ∈ rs, r.e.ks.length ≤ 1073741824 ∧ r.e.cl.ar.length ≤ 1073741824) : Calls Tryz.prog 73 #[.slice a rs.length c, .slice b rs.length d, .func (.func 74) #[] #[]] W (Rets W (.bool true)) := by
 have HA := Lh ha
 have HB := Lh hb
 have HR := Lh hr
 clear ha hb hr
 go_enter Tryz.func73, Tryz.ntmps73
 go_wp2_with fail
 go_loopw [17] (fun q wr => ∃ k : Nat, k ≤ rs.length ∧ q = .int .i64 k ∧ Hid (Ext W wr)) (fun q _ => rs.length - (intOf q).toNat)
 case atStart => exact ⟨0, Nat.zero_le _, rfl, Lh (eR _)⟩
 case round =>
  obtain ⟨k, hk, rfl, HX⟩ := hrel
  have sx := Sm HX.out
  by_cases hlt : k < rs.length
  ·obtain ⟨r, hx⟩ : ∃ u, rs[k]? = some u := ⟨_, gE hlt⟩
   obtain ⟨_, hk2⟩ := HR.out r (List.mem_of_getElem? hx)
   obtain ⟨p1, o1, rfl, _, _⟩ := Rows.at HA.out (by omega)
   obtain ⟨p2, o2, rfl, _, _⟩ := Rows.at HB.out (by omega)
   obtain ⟨ka, kc, ga, gc, hev, _, g0, g1, g2, g3, g4⟩ := rws_at HA.out k r hx rfl
   obtain ⟨kb, kd, gb, gd, hew, _, q0, q1, q2, q3, q4⟩ := rws_at HB.out k r hx rfl
   have y0 := alw g0
   have y1 := alw g1
   have y2 := alw g2
   have y3 := alw g3
   have y4 := alw g4
   have z0 := alw q0
   have z1 := alw q1
   have z2 := alw q2
   have z3 := alw q3
   have z4 := alw q4
   have HC := Lh (fun (w : World) (hw : Ext W w) => eqrow1_any (hev.ext hw) (hew.ext hw) hk2)
   have ql : ¬ ((rs.length : Int) ≤ k) := by omega
   clear hx hev hew g0 g1 g2 g3 g4 q0 q1 q2 q3 q4
   go_wp2_with fail
   refine via (HC.out _ grows) fun w5 xw5 sw5 => ?_
   go_wp2_with fail
   go_roundw
   case rel => exact ⟨k + 1, by omega, by go_num, Lh grows⟩
   case measure => simp [intOf]; omega
  ·obtain rfl : k = rs.length := by omega
   go_wp2_with fail
   go_ret
   exact ⟨rfl, HX.out⟩
theorem eqrows_any {W : World} {a b : Option Addr} {c d : Nat} {rs : List Tj.Rw} (ha : Tj.Rws W (.slice a rs.length c) rs) (hb : Tj.Rws W (.slice b rs.length d) rs) (hl : rs.length ≤ 1073741824) (hr : ∀ r ∈ rs, r.e.ks.length ≤ 1073741824 ∧ r.e.cl.ar.length ≤ 1073741824) : Calls Tryz.prog 32 #[.slice a rs.length c, .slice b rs.length d] W (Rets W (.bool true)) := by
 have HE := Lh (fun (w : World) (hw : Ext W w) => eqfrows_any (ha.ext hw) (hb.ext hw) hl hr)
 clear ha hb hr
 go_enter Tryz.func32, Tryz.ntmps32
 go_wp2_with fail
 refine via (HE.out _ grows) fun w1 x1 s1 => ?_
 go_wp2_with fail
 go_ret
 exact ⟨rfl, grows⟩
theorem eqfrr_any {W : World} {a b : Option Addr} {c d : Nat} {ls : List (List Tj.Rw)} (ha : Rows W 1 Tj.RwsR (.slice a ls.length c) ls) (hb : Rows W 1 Tj.RwsR (.slice b ls.length d) ls) (hl : ls.length ≤ 1073741824) (hr : ∀ rs ∈ ls, rs.length ≤ 1073741824 ∧ ∀ r ∈ rs, r.e.ks.length ≤ 1073741824 ∧ r.e.cl.ar.length ≤ 1073741824) : Calls Tryz.prog 31 #[.slice a ls.length c, .slice b ls.length d, .func (.func 32) #[] #[]] W (Rets W (.bool true)) := by
 have HA := Lh ha
 have HB := Lh hb
 have HR := Lh hr
 clear ha hb hr
 go_enter Tryz.func31, Tryz.ntmps31
 go_wp2_with fail
 go_loopw [17] (fun q wr => ∃ k : Nat, k ≤ ls.length ∧ q = .int .i64 k ∧ Hid (Ext W wr)) (fun q _ => ls.length - (intOf q).toNat)
 case atStart => exact ⟨0, Nat.zero_le _, rfl, Lh (eR _)⟩
 case round =>
  obtain ⟨k, hk, rfl, HX⟩ := hrel
  have sx := Sm HX.out
  by_cases hlt : k < ls.length
  ·obtain ⟨x, hx⟩ : ∃ u, ls[k]? = some u := ⟨_, gE hlt⟩
   have m1 := HR.out x (List.mem_of_getElem? hx)
   obtain ⟨p1, o1, rfl, _, hat⟩ := Rows.at HA.out (by omega)
   obtain ⟨p2, o2, rfl, _, hbt⟩ := Rows.at HB.out (by omega)
   obtain ⟨cs1, _, ⟨v1, rfl, hw1⟩, hc1⟩ := hat k _ hx
   obtain ⟨cs2, _, ⟨v2, rfl, hw2⟩, hc2⟩ := hbt k _ hx
   obtain ⟨a1, e1, rfl, _⟩ := Rows.slice hw1
   obtain ⟨a2, e2, rfl, _⟩ := Rows.slice hw2
   have u0 := hc1 0 _ rfl
   rw [Nat.mul_one, Nat.add_zero] at u0
   have y0 := alw u0
   have u1 := hc2 0 _ rfl
   rw [Nat.mul_one, Nat.add_zero] at u1
   have y1 := alw u1
   have HC := Lh (fun (w : World) (hw : Ext W w) => eqrows_any (Tj.Rws.ext hw1 hw) (Tj.Rws.ext hw2 hw) m1.1 m1.2)
   have ql : ¬ ((ls.length : Int) ≤ k) := by omega
   clear m1 hx hat hbt hc1 hc2 hw1 hw2 u0 u1
   go_wp2_with fail
   refine via (HC.out _ grows) fun w5 xw5 sw5 => ?_
   go_wp2_with fail
   go_roundw
   case rel => exact ⟨k + 1, by omega, by go_num, Lh grows⟩
   case measure => simp [intOf]; omega
  ·obtain rfl : k = ls.length := by omega
   go_wp2_with fail
   go_ret
   exact ⟨rfl, HX.out⟩
theorem eqfcc_any {W : World} {a b : Option Addr} {c d : Nat} {ls : List Tj.Call} (ha : Tj.Cls W (.slice a ls.length c) ls) (hb : Tj.Cls W (.slice b ls.length d) ls) (hl : ls.length ≤ 1073741824) (hr : ∀ x ∈ ls, x.ar.length ≤ 1073741824) : Calls Tryz.prog 34 #[.slice a ls.length c, .slice b ls.length d, .func (.func 35) #[] #[]] W (Rets W (.bool true)) := by
 have HA := Lh ha
 have HB := Lh hb
 have HR := Lh hr
 clear ha hb hr
 go_enter Tryz.func34, Tryz.ntmps34
 go_wp2_with fail
 go_loopw [17] (fun q wr => ∃ k : Nat, k ≤ ls.length ∧ q = .int .i64 k ∧ Hid (Ext W wr)) (fun q _ => ls.length - (intOf q).toNat)
 case atStart => exact ⟨0, Nat.zero_le _, rfl, Lh (eR _)⟩
 case round =>
  obtain ⟨k, hk, rfl, HX⟩ := hrel
  have sx := Sm HX.out
  by_cases hlt : k < ls.length
  ·obtain ⟨x, hx⟩ : ∃ u, ls[k]? = some u := ⟨_, gE hlt⟩
   have m1 := HR.out x (List.mem_of_getElem? hx)
   obtain ⟨p1, o1, rfl, _, hat⟩ := Rows.at HA.out (by omega)
   obtain ⟨p2, o2, rfl, _, hbt⟩ := Rows.at HB.out (by omega)
   obtain ⟨cs1, _, ⟨v1, rfl, _, hw1⟩, hc1⟩ := hat k _ hx
   obtain ⟨cs2, _, ⟨v2, rfl, _, hw2⟩, hc2⟩ := hbt k _ hx
   obtain ⟨a1, e1, rfl⟩ := ns_slice hw1.1
   obtain ⟨a2, e2, rfl⟩ := ns_slice hw2.1
   have u0 := hc1 0 _ rfl
   rw [Nat.add_zero] at u0
   have y0 := alw u0
   have y1 := alw (hc1 1 _ rfl)
   have u1 := hc2 0 _ rfl
   rw [Nat.add_zero] at u1
   have y2 := alw u1
   have y3 := alw (hc2 1 _ rfl)
   have HC := Lh (fun (w : World) (hw : Ext W w) => steqcalls_any (hw1.ext hw) (hw2.ext hw) m1)
   have ql : ¬ ((ls.length : Int) ≤ k) := by omega
   clear m1 hx hat hbt hc1 hc2 hw1 hw2 u0 u1
   go_wp2_with fail
   refine via (HC.out _ grows) fun w5 xw5 sw5 => ?_
   go_wp2_with fail
   go_roundw
   case rel => exact ⟨k + 1, by omega, by go_num, Lh grows⟩
   case measure => simp [intOf]; omega
  ·obtain rfl : k = ls.length := by omega
   go_wp2_with fail
   go_ret
   exact ⟨rfl, HX.out⟩
theorem steq1_any {W : World} {a b : Option Addr} {c d : Nat} {l : List Int} (ha : Tj.Us W (.slice a l.length c) l) (hb : Tj.Us W (.slice b l.length d) l) (hl : l.length ≤ 1073741824) : Calls Tryz.prog 37 #[.slice a l.length c, .slice b l.length d] W (Rets W (.bool true)) := by
 have HE := Lh (fun (w : World) (hw : Ext W w) => sleq_u32 (ha.ext hw) (hb.ext hw) hl)
 clear ha hb
 go_enter Tryz.func37, Tryz.ntmps37
 go_wp2_with fail
 refine via (HE.out _ grows) fun w1 x1 s1 => ?_
 go_wp2_with fail
 go_ret
 exact ⟨rfl, grows⟩
theorem eqfuu_any {W : World} {a b : Option Addr} {c d : Nat} {ls : List (List Int)} (ha : Rows W 1 RowR (.slice a ls.length c) ls) (hb : Rows W 1 RowR (.slice b ls.length d) ls) (hl : ls.length ≤ 1073741824) (hr : ∀ x ∈ ls, x.length ≤ 1073741824) : Calls Tryz.prog 36 #[.slice a ls.length c, .slice b ls.length d, .func (.func 37) #[] #[]] W (Rets W (.bool true)) := by
 have HA := Lh ha
 have HB := Lh hb
 have HR := Lh hr
 clear ha hb hr
 go_enter Tryz.func36, Tryz.ntmps36
 go_wp2_with fail
 go_loopw [17] (fun q wr => ∃ k : Nat, k ≤ ls.length ∧ q = .int .i64 k ∧ Hid (Ext W wr)) (fun q _ => ls.length - (intOf q).toNat)
 case atStart => exact ⟨0, Nat.zero_le _, rfl, Lh (eR _)⟩
 case round =>
  obtain ⟨k, hk, rfl, HX⟩ := hrel
  have sx := Sm HX.out
  by_cases hlt : k < ls.length
  ·obtain ⟨x, hx⟩ : ∃ u, ls[k]? = some u := ⟨_, gE hlt⟩
   have m1 := HR.out x (List.mem_of_getElem? hx)
   obtain ⟨p1, o1, rfl, _, hat⟩ := Rows.at HA.out (by omega)
   obtain ⟨p2, o2, rfl, _, hbt⟩ := Rows.at HB.out (by omega)
   obtain ⟨cs1, _, ⟨v1, rfl, hw1⟩, hc1⟩ := hat k _ hx
   obtain ⟨cs2, _, ⟨v2, rfl, hw2⟩, hc2⟩ := hbt k _ hx
   obtain ⟨a1, e1, rfl⟩ := ns_slice hw1.1
   obtain ⟨a2, e2, rfl⟩ := ns_slice hw2.1
   have u0 := hc1 0 _ rfl
   rw [Nat.mul_one, Nat.add_zero] at u0
   have y0 := alw u0
   have u1 := hc2 0 _ rfl
   rw [Nat.mul_one, Nat.add_zero] at u1
   have y1 := alw u1
   have HC := Lh (fun (w : World) (hw : Ext W w) => steq1_any (Tj.Us.ext hw1 hw) (Tj.Us.ext hw2 hw) m1)
   have ql : ¬ ((ls.length : Int) ≤ k) := by omega
   clear m1 hx hat hbt hc1 hc2 hw1 hw2 u0 u1
   go_wp2_with fail
   refine via (HC.out _ grows) fun w5 xw5 sw5 => ?_
   go_wp2_with fail
   go_roundw
   case rel => exact ⟨k + 1, by omega, by go_num, Lh grows⟩
   case measure => simp [intOf]; omega
  ·obtain rfl : k = ls.length := by omega
   go_wp2_with fail
   go_ret
   exact ⟨rfl, HX.out⟩
theorem steq_any {W : World} {va vb : Value} {C : Tj.Cfg} (ha : Tj.CfgV W va C) (hb : Tj.CfgV W vb C) (hcb : Tj.CB C) : Calls Tryz.prog 15 #[va, vb] W (Rets W (.bool true)) := by
 obtain ⟨r0, c0, r1, c1, r2, c2, r3, c3, rfl, ha0, ha1, ha2, ha3⟩ := ha.form
 obtain ⟨s0, d0, s1, d1, s2, d2, s3, d3, rfl, hb0, hb1, hb2, hb3⟩ := hb.form
 obtain ⟨g0, g1, g2, g3, g4, g5, g6⟩ := hcb
 have H0 : Hid (∀ w, Ext W w → Calls Tryz.prog 31 #[.slice r0 C.rows.length c0, .slice s0 C.rows.length d0, .func (.func 32) #[] #[]] w (Rets w (.bool true))) := Lh (fun w hw => eqfrr_any (ha0.ext (fun _ _ h => h.ext hw) hw) (hb0.ext (fun _ _ h => h.ext hw) hw) g0 g1)
 have H1 := Lh (fun (w : World) (hw : Ext W w) => sleq_int (ha1.ext hw) (hb1.ext hw) g2)
 have H2 := Lh (fun (w : World) (hw : Ext W w) => eqfcc_any (ha2.ext hw) (hb2.ext hw) g3 g4)
 have H3 : Hid (∀ w, Ext W w → Calls Tryz.prog 36 #[.slice r3 C.rg.length c3, .slice s3 C.rg.length d3, .func (.func 37) #[] #[]] w (Rets w (.bool true))) := Lh (fun w hw => eqfuu_any (ha3.ext (fun _ _ h => h.ext hw) hw) (hb3.ext (fun _ _ h => h.ext hw) hw) g5 g6)
 clear ha hb ha0 ha1 ha2 ha3 hb0 hb1 hb2 hb3 g0 g1 g2 g3 g4 g5 g6
 have b1 := aH W (.cells (Yq7 r0 c0 C r1 c1 r2 c2 r3 c3) 45)
 have k0 := alw (cQ 0 b1)
 have k1 := alw (cQ 1 b1)
 have k2 := alw (cQ 2 b1)
 have k3 := alw (cQ 3 b1)
 have b2 := aH (W.alloc (.cells (Yq7 r0 c0 C r1 c1 r2 c2 r3 c3) 45)) (.cells #[.slice s0 C.rows.length d0, .slice s1 C.nx.length d1, .slice s2 C.df.length d2, .slice s3 C.rg.length d3] 45)
 rw [szA] at b2
 have j0 := alw (cQ 0 b2)
 have j1 := alw (cQ 1 b2)
 have j2 := alw (cQ 2 b2)
 have j3 := alw (cQ 3 b2)
 clear b1 b2
 go_enter Tryz.func15, Tryz.ntmps15
 go_wp2_with fail
 refine via (H0.out _ grows) fun w0 x0 t0 => ?_
 go_wp2_with fail
 refine via (H1.out _ grows) fun w1 x1 t1 => ?_
 go_wp2_with fail
 refine via (H2.out _ grows) fun w2 x2 t2 => ?_
 go_wp2_with fail
 refine via (H3.out _ grows) fun w3 x3 t3 => ?_
 go_wp2_with fail
 go_ret
 exact ⟨rfl, grows⟩
namespace Tj
def tower (W : World) (os : List Obj) : World := os.foldl World.alloc W
theorem tower_ext : ∀ (os : List Obj) (W : World), Ext W (tower W os)
 | [], W => eR W
 | x :: os, W => ((eR W).alloc x).trans (tower_ext os (W.alloc x))
theorem tower_heap : ∀ {os : List Obj} {W : World} {i : Nat} {o : Obj}, os[i]? = some o → (tower W os).heap[W.heap.size + i]? = some o
 | [], _, _, _, h => by simp at h
 | x :: os, W, 0, o, h => by
  simp only [List.getElem?_cons_zero, Option.some.injEq] at h
  subst h
  have h1 : Ext (W.alloc x) (tower (W.alloc x) os) := tower_ext os _
  exact h1.heap (aH W x)
 | x :: os, W, i + 1, o, h => by
  simp only [List.getElem?_cons_succ] at h
  have := tower_heap (W := W.alloc x) h
  rw [szA] at this
  rw [show W.heap.size + (i + 1) = W.heap.size + 1 + i by omega]; exact this
/-- elements in a block, each with its cells -/
theorem rows_lit {α : Type} {w : World} {B sz n : Nat} {t : TypeId} {f : Nat × Nat} {R : World → List Value → α → Prop} (css : List (List Value)) (ds : List α) (hn : ds.length = n) (hl : css.length = ds.length) (hs : ∀ x ∈ css, x.length = sz) (hR : ∀ (i : Nat) (cs : List Value) (d : α), css[i]? = some cs → ds[i]? = some d → R w cs d)
 (hb : w.heap[B]? = some (.cells css.flatten.toArray t f)) (hm : ds.length ≤ maxLen) : Rows w sz R (.slice (some ⟨B, 0, none⟩) n n) ds := by
 subst hn
 refine .inr ⟨⟨B, 0, none⟩, _, rfl, Nat.le_refl _, hm, fun _ => rfl, fun i d hi => ?_⟩
 have hlt := (List.getElem?_eq_some_iff.1 hi).1
 obtain ⟨cs, hcs⟩ : ∃ cs, css[i]? = some cs := ⟨_, gE (by omega)⟩
 refine ⟨cs, hs cs (List.mem_of_getElem? hcs), hR i cs d hcs hi, fun j u hj => ?_⟩
 have h4 := flatten_one hs hcs hj
 rw [cell_of hb, List.getElem?_toArray, Nat.zero_add]; exact h4
theorem rows_lit1 {α : Type} {w : World} {B sz : Nat} {t : TypeId} {f : Nat × Nat} {R : World → List Value → α → Prop} {a : α} (u : List Value) (hu : u.length = sz) (ha : R w u a) (hb : w.heap[B]? = some (.cells u.toArray t f)) : Rows w sz R (.slice (some ⟨B, 0, none⟩) 1 1) [a] :=
 rows_lit [u] [a] rfl rfl (fun x hx => by simp only [List.mem_singleton] at hx; subst hx; exact hu) (fun i cs d h1 h2 => by
  match i, h1, h2 with
  | 0, h1, h2 => simp only [List.getElem?_cons_zero, Option.some.injEq] at h1 h2; subst h1 h2; exact ha
  | i + 1, h1, _ => simp at h1) (by simpa using hb) (by unfold maxLen; simp)
theorem ns_lit {w : World} {B n : Nat} {t : TypeId} {f : Nat × Nat} {k : IntKind} (l : List Int) (hn : l.length = n) (hb : w.heap[B]? = some (.cells (l.map (Value.int k)).toArray t f)) (h2 : l.length ≤ maxLen) : Ns k w (.slice (some ⟨B, 0, none⟩) n n) l := by
 subst hn
 exact ⟨⟨by simp, by intro u hu; simp at hu; obtain ⟨x, _, rfl⟩ := hu; rfl, .inr ⟨⟨B, 0, none⟩, _, rfl, fun j u hj => by
  rw [show (⟨B, 0, none⟩ : Addr).add j = ⟨B, j, none⟩ by simp [Addr.add]; exact fun h => h.symm]
  rw [cell_of hb, List.getElem?_toArray, hj]⟩⟩, h2⟩
theorem ns_none (k : IntKind) (w : World) : Ns k w (.slice none 0 0) [] := ⟨⟨rfl, by simp, .inl ⟨rfl, rfl⟩⟩, Nat.zero_le _⟩
def sm1 : Stm := ⟨1, -1, 1, 0, 0, [], [⟨1, 3, 8⟩]⟩
def sm2 : Stm := ⟨4, -1, 3, 0, 0, [⟨1, 0, 1⟩], []⟩
def sm3 : Stm := ⟨5, 0, 0, 0, 0, [⟨1, 0, 1⟩], [⟨9, 0, 0⟩, ⟨2, -1, 3⟩, ⟨1, 1, 8⟩]⟩
def smh : Hd.Hdr := (⟨#[104]⟩, [(⟨#[97]⟩, 8)])
def smm : List Hd.Fld := [(⟨#[105, 110]⟩, 8), (⟨#[111, 117, 116]⟩, 8), (⟨#[100, 114, 111, 112]⟩, 1), (⟨#[110]⟩, 8)]
/-- the small program -/
def small : FP := ⟨⟨#[115, 109, 97, 108, 108]⟩, ⟨[smh], smm, [0]⟩, [⟨⟨#[115, 101, 101, 110]⟩, 8, 2⟩], [⟨⟨#[115, 101, 110, 100]⟩, [], [sm1, sm2, sm3]⟩], [⟨⟨#[97, 108, 108]⟩, [], [0], ⟨0, []⟩, 1⟩], [⟨⟨#[115, 116, 97, 114, 116]⟩, [0], false, 0, 0, [], -1⟩], [⟨1, 0, [], 0, 0⟩], 1⟩
theorem small_sz : Sz small := ⟨by decide, by intro h hh; simp [small, smh] at hh; subst hh; decide, by decide, by decide, by decide, by intro a ha; simp [small] at ha; subst ha; refine ⟨by decide, by decide, ?_⟩; intro s hs; simp at hs; rcases hs with rfl | rfl | rfl <;> decide, by decide, by intro t ht; simp [small] at ht; subst ht; decide, by decide, by intro s hs; simp [small] at hs; subst hs; decide, by decide, by intro c hc; simp [small] at hc; subst hc; decide, by decide⟩
theorem small_chk : chkF small = 0 := by kernel_rfl
theorem smk_e : ∀ d ∈ ([⟨1, 3, 8⟩, ⟨1, 0, 1⟩, ⟨9, 0, 0⟩, ⟨2, -1, 3⟩, ⟨1, 1, 8⟩] : List EN), B64 d.op ∧ B64 d.n ∧ B64 d.w := by intro d hd; simp at hd; rcases hd with rfl | rfl | rfl | rfl | rfl <;> (unfold B64 Rg.B64; decide)
theorem exp_none (w : World) : Exp w (.slice none 0 0) [] := .inl ⟨rfl, rfl⟩
end Tj
theorem smallp_any (W : World) : Calls Tryz.prog 14 #[] W (fun e w' => ∃ p : Pg.PV, e = .returned p.val ∧ Ext W w' ∧ Tj.IsG w' p Tj.small) := by
 obtain ⟨OS, hOS⟩ : ∃ OS : List Obj, OS = [(.cells #[.string ⟨#[115, 109, 97, 108, 108]⟩, .slice (some ⟨W.heap.size + 4, 0, none⟩) 1 1, .slice (some ⟨W.heap.size + 5, 0, none⟩) 4 4, .slice (some ⟨W.heap.size + 6, 0, none⟩) 1 1, .slice (some ⟨W.heap.size + 15, 0, none⟩) 1 1, .slice (some ⟨W.heap.size + 17, 0, none⟩) 1 1, .slice (some ⟨W.heap.size + 19, 0, none⟩) 1 1, .slice (some ⟨W.heap.size + 20, 0, none⟩) 1 1, .slice (some ⟨W.heap.size + 1, 0, none⟩) 1 1] 31), (.cells #[.int .i64 0] 3), (.cells #[.string ⟨#[115, 109, 97, 108, 108]⟩, .slice (some ⟨W.heap.size + 4, 0, none⟩) 1 1, .slice (some ⟨W.heap.size + 5, 0, none⟩) 4 4, .slice (some ⟨W.heap.size + 6, 0, none⟩) 1 1, .slice (some ⟨W.heap.size + 15, 0, none⟩) 1 1, .slice (some ⟨W.heap.size + 17, 0, none⟩) 1 1, .slice (some ⟨W.heap.size + 19, 0, none⟩) 1 1, .slice (some ⟨W.heap.size + 20, 0, none⟩) 1 1, .slice (some ⟨W.heap.size + 1, 0, none⟩) 1 1] 31), (.cells #[.string ⟨#[97]⟩, .int .i64 8] 94), (.cells #[.string ⟨#[104]⟩, .slice (some ⟨W.heap.size + 3, 0, none⟩) 1 1] 96), (.cells #[.string ⟨#[105, 110]⟩, .int .i64 8, .string ⟨#[111, 117, 116]⟩, .int .i64 8, .string ⟨#[100, 114, 111, 112]⟩, .int .i64 1, .string ⟨#[110]⟩, .int .i64 8] 94), (.cells #[.string ⟨#[115, 101, 101, 110]⟩, .int .i64 8, .int .i64 2] 98), (.cells #[.int .i64 1, .int .i64 0, .int .i64 1] 100), (.cells #[.int .i64 (-1), .int .i64 3] 103), (.cells #[.int .i64 1, .int .i64 3, .int .i64 8] 100), (.cells #[.int .i64 1, .int .i64 (-1), .int .i64 1, .int .i64 0, .int .i64 0, .slice none 0 0, .slice (some ⟨W.heap.size + 9, 0, none⟩) 1 1] 105), (.cells #[.int .i64 4, .int .i64 (-1), .int .i64 3, .int .i64 0, .int .i64 0, .slice (some ⟨W.heap.size + 7, 0, none⟩) 1 1, .slice none 0 0] 105), (.cells #[.int .i64 9, .int .i64 0, .int .i64 0, .int .i64 2, .int .i64 (-1), .int .i64 3, .int .i64 1, .int .i64 1, .int .i64 8] 100), (.cells #[.int .i64 5, .int .i64 0, .int .i64 0, .int .i64 0, .int .i64 0, .slice (some ⟨W.heap.size + 7, 0, none⟩) 1 1, .slice (some ⟨W.heap.size + 12, 0, none⟩) 3 3] 105), (.cells #[.int .i64 1, .int .i64 (-1), .int .i64 1, .int .i64 0, .int .i64 0, .slice none 0 0, .slice (some ⟨W.heap.size + 9, 0, none⟩) 1 1, .int .i64 4, .int .i64 (-1), .int .i64 3, .int .i64 0, .int .i64 0, .slice (some ⟨W.heap.size + 7, 0, none⟩) 1 1, .slice none 0 0, .int .i64 5, .int .i64 0, .int .i64 0, .int .i64 0, .int .i64 0, .slice (some ⟨W.heap.size + 7, 0, none⟩) 1 1, .slice (some ⟨W.heap.size + 12, 0, none⟩) 3 3] 105), (.cells #[.string ⟨#[115, 101, 110, 100]⟩, .slice none 0 0, .slice (some ⟨W.heap.size + 14, 0, none⟩) 3 3] 92), (.cells #[.int .i64 0] 3), (.cells #[.string ⟨#[97, 108, 108]⟩, .slice none 0 0, .slice (some ⟨W.heap.size + 16, 0, none⟩) 1 1, .int .i64 0, .slice none 0 0, .int .i64 1] 108), (.cells #[.int .i64 0] 3), (.cells #[.string ⟨#[115, 116, 97, 114, 116]⟩, .slice (some ⟨W.heap.size + 18, 0, none⟩) 1 1, .bool false, .int .i64 0, .int .i64 0, .slice none 0 0, .int .i64 (-1)] 111), (.cells #[.int .i64 1, .int .i64 0, .slice none 0 0, .slice none 0 0, .slice none 0 0] 113)] := ⟨_, rfl⟩
 obtain ⟨W2, hW2⟩ : ∃ W2, W2 = Tj.tower W OS := ⟨_, rfl⟩
 have hx2 : Ext W W2 := by rw [hW2]; exact Tj.tower_ext OS W
 have HTW : Hid (W2 = (((((((((((((((((((((W.alloc (.cells #[.string ⟨#[115, 109, 97, 108, 108]⟩, .slice (some ⟨W.heap.size + 1 + 1 + 1 + 1, 0, none⟩) 1 1, .slice (some ⟨W.heap.size + 1 + 1 + 1 + 1 + 1, 0, none⟩) 4 4, .slice (some ⟨W.heap.size + 1 + 1 + 1 + 1 + 1 + 1, 0, none⟩) 1 1, .slice (some ⟨W.heap.size + 1 + 1 + 1 + 1 + 1 + 1 + 1 + 1 + 1 + 1 + 1 + 1 + 1 + 1 + 1, 0, none⟩) 1 1, .slice (some ⟨W.heap.size + 1 + 1 + 1 + 1 + 1 + 1 + 1 + 1 + 1 + 1 + 1 + 1 + 1 + 1 + 1 + 1 + 1, 0, none⟩) 1 1, .slice (some ⟨W.heap.size + 1 + 1 + 1 + 1 + 1 + 1 + 1 + 1 + 1 + 1 + 1 + 1 + 1 + 1 + 1 + 1 + 1 + 1 + 1, 0, none⟩) 1 1, .slice (some ⟨W.heap.size + 1 + 1 + 1 + 1 + 1 + 1 + 1 + 1 + 1 + 1 + 1 + 1 + 1 + 1 + 1 + 1 + 1 + 1 + 1 + 1, 0, none⟩) 1 1, .slice (some ⟨W.heap.size + 1, 0, none⟩) 1 1] 31)).alloc (.cells #[.int .i64 0] 3)).alloc (.cells #[.string ⟨#[115, 109, 97, 108, 108]⟩, .slice (some ⟨W.heap.size + 1 + 1 + 1 + 1, 0, none⟩) 1 1, .slice (some ⟨W.heap.size + 1 + 1 + 1 + 1 + 1, 0, none⟩) 4 4, .slice (some ⟨W.heap.size + 1 + 1 + 1 + 1 + 1 + 1, 0, none⟩) 1 1, .slice (some ⟨W.heap.size + 1 + 1 + 1 + 1 + 1 + 1 + 1 + 1 + 1 + 1 + 1 + 1 + 1 + 1 + 1, 0, none⟩) 1 1, .slice (some ⟨W.heap.size + 1 + 1 + 1 + 1 + 1 + 1 + 1 + 1 + 1 + 1 + 1 + 1 + 1 + 1 + 1 + 1 + 1, 0, none⟩) 1 1, .slice (some ⟨W.heap.size + 1 + 1 + 1 + 1 + 1 + 1 + 1 + 1 + 1 + 1 + 1 + 1 + 1 + 1 + 1 + 1 + 1 + 1 + 1, 0, none⟩) 1 1, .slice (some ⟨W.heap.size + 1 + 1 + 1 + 1 + 1 + 1 + 1 + 1 + 1 + 1 + 1 + 1 + 1 + 1 + 1 + 1 + 1 + 1 + 1 + 1, 0, none⟩) 1 1, .slice (some ⟨W.heap.size + 1, 0, none⟩) 1 1] 31)).alloc (.cells #[.string ⟨#[97]⟩, .int .i64 8] 94)).alloc (.cells #[.string ⟨#[104]⟩, .slice (some ⟨W.heap.size + 1 + 1 + 1, 0, none⟩) 1 1] 96)).alloc (.cells #[.string ⟨#[105, 110]⟩, .int .i64 8, .string ⟨#[111, 117, 116]⟩, .int .i64 8, .string ⟨#[100, 114, 111, 112]⟩, .int .i64 1, .string ⟨#[110]⟩, .int .i64 8] 94)).alloc (.cells #[.string ⟨#[115, 101, 101, 110]⟩, .int .i64 8, .int .i64 2] 98)).alloc (.cells #[.int .i64 1, .int .i64 0, .int .i64 1] 100)).alloc (.cells #[.int .i64 (-1), .int .i64 3] 103)).alloc (.cells #[.int .i64 1, .int .i64 3, .int .i64 8] 100)).alloc (.cells #[.int .i64 1, .int .i64 (-1), .int .i64 1, .int .i64 0, .int .i64 0, .slice none 0 0, .slice (some ⟨W.heap.size + 1 + 1 + 1 + 1 + 1 + 1 + 1 + 1 + 1, 0, none⟩) 1 1] 105)).alloc (.cells #[.int .i64 4, .int .i64 (-1), .int .i64 3, .int .i64 0, .int .i64 0, .slice (some ⟨W.heap.size + 1 + 1 + 1 + 1 + 1 + 1 + 1, 0, none⟩) 1 1, .slice none 0 0] 105)).alloc (.cells #[.int .i64 9, .int .i64 0, .int .i64 0, .int .i64 2, .int .i64 (-1), .int .i64 3, .int .i64 1, .int .i64 1, .int .i64 8] 100)).alloc (.cells #[.int .i64 5, .int .i64 0, .int .i64 0, .int .i64 0, .int .i64 0, .slice (some ⟨W.heap.size + 1 + 1 + 1 + 1 + 1 + 1 + 1, 0, none⟩) 1 1, .slice (some ⟨W.heap.size + 1 + 1 + 1 + 1 + 1 + 1 + 1 + 1 + 1 + 1 + 1 + 1, 0, none⟩) 3 3] 105)).alloc (.cells #[.int .i64 1, .int .i64 (-1), .int .i64 1, .int .i64 0, .int .i64 0, .slice none 0 0, .slice (some ⟨W.heap.size + 1 + 1 + 1 + 1 + 1 + 1 + 1 + 1 + 1, 0, none⟩) 1 1, .int .i64 4, .int .i64 (-1), .int .i64 3, .int .i64 0, .int .i64 0, .slice (some ⟨W.heap.size + 1 + 1 + 1 + 1 + 1 + 1 + 1, 0, none⟩) 1 1, .slice none 0 0, .int .i64 5, .int .i64 0, .int .i64 0, .int .i64 0, .int .i64 0, .slice (some ⟨W.heap.size + 1 + 1 + 1 + 1 + 1 + 1 + 1, 0, none⟩) 1 1, .slice (some ⟨W.heap.size + 1 + 1 + 1 + 1 + 1 + 1 + 1 + 1 + 1 + 1 + 1 + 1, 0, none⟩) 3 3] 105)).alloc (.cells #[.string ⟨#[115, 101, 110, 100]⟩, .slice none 0 0, .slice (some ⟨W.heap.size + 1 + 1 + 1 + 1 + 1 + 1 + 1 + 1 + 1 + 1 + 1 + 1 + 1 + 1, 0, none⟩) 3 3] 92)).alloc (.cells #[.int .i64 0] 3)).alloc (.cells #[.string ⟨#[97, 108, 108]⟩, .slice none 0 0, .slice (some ⟨W.heap.size + 1 + 1 + 1 + 1 + 1 + 1 + 1 + 1 + 1 + 1 + 1 + 1 + 1 + 1 + 1 + 1, 0, none⟩) 1 1, .int .i64 0, .slice none 0 0, .int .i64 1] 108)).alloc (.cells #[.int .i64 0] 3)).alloc (.cells #[.string ⟨#[115, 116, 97, 114, 116]⟩, .slice (some ⟨W.heap.size + 1 + 1 + 1 + 1 + 1 + 1 + 1 + 1 + 1 + 1 + 1 + 1 + 1 + 1 + 1 + 1 + 1 + 1, 0, none⟩) 1 1, .bool false, .int .i64 0, .int .i64 0, .slice none 0 0, .int .i64 (-1)] 111)).alloc (.cells #[.int .i64 1, .int .i64 0, .slice none 0 0, .slice none 0 0, .slice none 0 0] 113))) := Lh (by rw [hW2, hOS]; rfl)
 have hb0 : W2.heap[W.heap.size]? = some (.cells #[.string ⟨#[115, 109, 97, 108, 108]⟩, .slice (some ⟨W.heap.size + 4, 0, none⟩) 1 1, .slice (some ⟨W.heap.size + 5, 0, none⟩) 4 4, .slice (some ⟨W.heap.size + 6, 0, none⟩) 1 1, .slice (some ⟨W.heap.size + 15, 0, none⟩) 1 1, .slice (some ⟨W.heap.size + 17, 0, none⟩) 1 1, .slice (some ⟨W.heap.size + 19, 0, none⟩) 1 1, .slice (some ⟨W.heap.size + 20, 0, none⟩) 1 1, .slice (some ⟨W.heap.size + 1, 0, none⟩) 1 1] 31) := by rw [hW2]; exact Tj.tower_heap (os := OS) (i := 0) (by rw [hOS]; rfl)
 have hb1 : W2.heap[W.heap.size + 1]? = some (.cells #[.int .i64 0] 3) := by rw [hW2]; exact Tj.tower_heap (os := OS) (i := 1) (by rw [hOS]; rfl)
 have hb3 : W2.heap[W.heap.size + 3]? = some (.cells #[.string ⟨#[97]⟩, .int .i64 8] 94) := by rw [hW2]; exact Tj.tower_heap (os := OS) (i := 3) (by rw [hOS]; rfl)
 have hb4 : W2.heap[W.heap.size + 4]? = some (.cells #[.string ⟨#[104]⟩, .slice (some ⟨W.heap.size + 3, 0, none⟩) 1 1] 96) := by rw [hW2]; exact Tj.tower_heap (os := OS) (i := 4) (by rw [hOS]; rfl)
 have hb5 : W2.heap[W.heap.size + 5]? = some (.cells #[.string ⟨#[105, 110]⟩, .int .i64 8, .string ⟨#[111, 117, 116]⟩, .int .i64 8, .string ⟨#[100, 114, 111, 112]⟩, .int .i64 1, .string ⟨#[110]⟩, .int .i64 8] 94) := by rw [hW2]; exact Tj.tower_heap (os := OS) (i := 5) (by rw [hOS]; rfl)
 have hb6 : W2.heap[W.heap.size + 6]? = some (.cells #[.string ⟨#[115, 101, 101, 110]⟩, .int .i64 8, .int .i64 2] 98) := by rw [hW2]; exact Tj.tower_heap (os := OS) (i := 6) (by rw [hOS]; rfl)
 have hb7 : W2.heap[W.heap.size + 7]? = some (.cells #[.int .i64 1, .int .i64 0, .int .i64 1] 100) := by rw [hW2]; exact Tj.tower_heap (os := OS) (i := 7) (by rw [hOS]; rfl)
 have hb9 : W2.heap[W.heap.size + 9]? = some (.cells #[.int .i64 1, .int .i64 3, .int .i64 8] 100) := by rw [hW2]; exact Tj.tower_heap (os := OS) (i := 9) (by rw [hOS]; rfl)
 have hb12 : W2.heap[W.heap.size + 12]? = some (.cells #[.int .i64 9, .int .i64 0, .int .i64 0, .int .i64 2, .int .i64 (-1), .int .i64 3, .int .i64 1, .int .i64 1, .int .i64 8] 100) := by rw [hW2]; exact Tj.tower_heap (os := OS) (i := 12) (by rw [hOS]; rfl)
 have hb14 : W2.heap[W.heap.size + 14]? = some (.cells #[.int .i64 1, .int .i64 (-1), .int .i64 1, .int .i64 0, .int .i64 0, .slice none 0 0, .slice (some ⟨W.heap.size + 9, 0, none⟩) 1 1, .int .i64 4, .int .i64 (-1), .int .i64 3, .int .i64 0, .int .i64 0, .slice (some ⟨W.heap.size + 7, 0, none⟩) 1 1, .slice none 0 0, .int .i64 5, .int .i64 0, .int .i64 0, .int .i64 0, .int .i64 0, .slice (some ⟨W.heap.size + 7, 0, none⟩) 1 1, .slice (some ⟨W.heap.size + 12, 0, none⟩) 3 3] 105) := by rw [hW2]; exact Tj.tower_heap (os := OS) (i := 14) (by rw [hOS]; rfl)
 have hb15 : W2.heap[W.heap.size + 15]? = some (.cells #[.string ⟨#[115, 101, 110, 100]⟩, .slice none 0 0, .slice (some ⟨W.heap.size + 14, 0, none⟩) 3 3] 92) := by rw [hW2]; exact Tj.tower_heap (os := OS) (i := 15) (by rw [hOS]; rfl)
 have hb16 : W2.heap[W.heap.size + 16]? = some (.cells #[.int .i64 0] 3) := by rw [hW2]; exact Tj.tower_heap (os := OS) (i := 16) (by rw [hOS]; rfl)
 have hb17 : W2.heap[W.heap.size + 17]? = some (.cells #[.string ⟨#[97, 108, 108]⟩, .slice none 0 0, .slice (some ⟨W.heap.size + 16, 0, none⟩) 1 1, .int .i64 0, .slice none 0 0, .int .i64 1] 108) := by rw [hW2]; exact Tj.tower_heap (os := OS) (i := 17) (by rw [hOS]; rfl)
 have hb18 : W2.heap[W.heap.size + 18]? = some (.cells #[.int .i64 0] 3) := by rw [hW2]; exact Tj.tower_heap (os := OS) (i := 18) (by rw [hOS]; rfl)
 have hb19 : W2.heap[W.heap.size + 19]? = some (.cells #[.string ⟨#[115, 116, 97, 114, 116]⟩, .slice (some ⟨W.heap.size + 18, 0, none⟩) 1 1, .bool false, .int .i64 0, .int .i64 0, .slice none 0 0, .int .i64 (-1)] 111) := by rw [hW2]; exact Tj.tower_heap (os := OS) (i := 19) (by rw [hOS]; rfl)
 have hb20 : W2.heap[W.heap.size + 20]? = some (.cells #[.int .i64 1, .int .i64 0, .slice none 0 0, .slice none 0 0, .slice none 0 0] 113) := by rw [hW2]; exact Tj.tower_heap (os := OS) (i := 20) (by rw [hOS]; rfl)
 have r3 : Hd.Flds W2 (.slice (some ⟨W.heap.size + 3, 0, none⟩) 1 1) Tj.smh.2 := Tj.rows_lit1 [.string ⟨#[97]⟩, .int .i64 8] rfl ⟨rfl, by decide⟩ hb3
 have r4 : Rows W2 2 Hd.HdrR (.slice (some ⟨W.heap.size + 4, 0, none⟩) 1 1) [Tj.smh] := Tj.rows_lit1 [.string ⟨#[104]⟩, .slice (some ⟨W.heap.size + 3, 0, none⟩) 1 1] rfl ⟨_, rfl, by decide, r3⟩ hb4
 have r5 : Hd.Flds W2 (.slice (some ⟨W.heap.size + 5, 0, none⟩) 4 4) Tj.smm := Hd.flds_new Tj.smm (fun d hd => by simp [Tj.smm] at hd; rcases hd with rfl | rfl | rfl | rfl <;> decide) hb5 (by decide)
 have r6 : Rows W2 3 Rg.RegR (.slice (some ⟨W.heap.size + 6, 0, none⟩) 1 1) Tj.small.rs := Tj.rows_lit1 [.string ⟨#[115, 101, 101, 110]⟩, .int .i64 8, .int .i64 2] rfl ⟨rfl, by decide, by unfold Rg.B64; decide, by unfold Rg.B64; decide⟩ hb6
 have r7 : Tj.Exp W2 (.slice (some ⟨W.heap.size + 7, 0, none⟩) 1 1) [⟨1, 0, 1⟩] := Tj.rows_lit1 [.int .i64 1, .int .i64 0, .int .i64 1] rfl ⟨rfl, Tj.smk_e _ (by simp)⟩ hb7
 have r9 : Tj.Exp W2 (.slice (some ⟨W.heap.size + 9, 0, none⟩) 1 1) [⟨1, 3, 8⟩] := Tj.rows_lit1 [.int .i64 1, .int .i64 3, .int .i64 8] rfl ⟨rfl, Tj.smk_e _ (by simp)⟩ hb9
 have r12 : Tj.Exp W2 (.slice (some ⟨W.heap.size + 12, 0, none⟩) 3 3) Tj.sm3.va := Tj.rows_lit [[.int .i64 9, .int .i64 0, .int .i64 0], [.int .i64 2, .int .i64 (-1), .int .i64 3], [.int .i64 1, .int .i64 1, .int .i64 8]] Tj.sm3.va rfl rfl (by intro x hx; simp at hx; rcases hx with rfl | rfl | rfl <;> rfl) (by
  intro i cs d h1 h2
  match i, h1, h2 with
  | 0, h1, h2 => simp [Tj.sm3] at h1 h2; subst h1 h2; exact ⟨rfl, Tj.smk_e _ (by simp)⟩
  | 1, h1, h2 => simp [Tj.sm3] at h1 h2; subst h1 h2; exact ⟨rfl, Tj.smk_e _ (by simp)⟩
  | 2, h1, h2 => simp [Tj.sm3] at h1 h2; subst h1 h2; exact ⟨rfl, Tj.smk_e _ (by simp)⟩
  | i + 3, h1, _ => simp at h1) hb12 (by decide)
 have r14 : Tj.Stms W2 (.slice (some ⟨W.heap.size + 14, 0, none⟩) 3 3) [Tj.sm1, Tj.sm2, Tj.sm3] := Tj.rows_lit [[.int .i64 1, .int .i64 (-1), .int .i64 1, .int .i64 0, .int .i64 0, .slice none 0 0, .slice (some ⟨W.heap.size + 9, 0, none⟩) 1 1], [.int .i64 4, .int .i64 (-1), .int .i64 3, .int .i64 0, .int .i64 0, .slice (some ⟨W.heap.size + 7, 0, none⟩) 1 1, .slice none 0 0], [.int .i64 5, .int .i64 0, .int .i64 0, .int .i64 0, .int .i64 0, .slice (some ⟨W.heap.size + 7, 0, none⟩) 1 1, .slice (some ⟨W.heap.size + 12, 0, none⟩) 3 3]] _ rfl rfl (by intro x hx; simp at hx; rcases hx with rfl | rfl | rfl <;> rfl) (by
  intro i cs d h1 h2
  match i, h1, h2 with
  | 0, h1, h2 => simp at h1 h2; subst h1 h2; exact ⟨_, _, rfl, by unfold Tj.B64 Rg.B64; decide, Tj.exp_none _, r9⟩
  | 1, h1, h2 => simp at h1 h2; subst h1 h2; exact ⟨_, _, rfl, by unfold Tj.B64 Rg.B64; decide, r7, Tj.exp_none _⟩
  | 2, h1, h2 => simp at h1 h2; subst h1 h2; exact ⟨_, _, rfl, by unfold Tj.B64 Rg.B64; decide, r7, r12⟩
  | i + 3, h1, _ => simp at h1) hb14 (by decide)
 have r15 : Tj.Acts W2 (.slice (some ⟨W.heap.size + 15, 0, none⟩) 1 1) Tj.small.ac := Tj.rows_lit1 [.string ⟨#[115, 101, 110, 100]⟩, .slice none 0 0, .slice (some ⟨W.heap.size + 14, 0, none⟩) 3 3] rfl ⟨_, _, rfl, by decide, .inl ⟨rfl, rfl⟩, r14⟩ hb15
 have r16 : Tj.Is W2 (.slice (some ⟨W.heap.size + 16, 0, none⟩) 1 1) [0] := ⟨Tj.ns_lit [0] rfl hb16 (by decide), by intro x hx; simp at hx; subst hx; unfold Tj.B64 Rg.B64; decide⟩
 have r17 : Tj.Tabs W2 (.slice (some ⟨W.heap.size + 17, 0, none⟩) 1 1) Tj.small.ts := Tj.rows_lit1 [.string ⟨#[97, 108, 108]⟩, .slice none 0 0, .slice (some ⟨W.heap.size + 16, 0, none⟩) 1 1, .int .i64 0, .slice none 0 0, .int .i64 1] rfl ⟨_, _, _, rfl, by decide, by unfold Tj.B64 Rg.B64; decide, .inl ⟨rfl, rfl⟩, r16, Tj.ns_none _ _, by simp⟩ hb17
 have r18 : Ns .i64 W2 (.slice (some ⟨W.heap.size + 18, 0, none⟩) 1 1) [0] := Tj.ns_lit [0] rfl hb18 (by decide)
 have r19 : Rows W2 7 Ps.StR (.slice (some ⟨W.heap.size + 19, 0, none⟩) 1 1) Tj.small.ss := Tj.rows_lit1 [.string ⟨#[115, 116, 97, 114, 116]⟩, .slice (some ⟨W.heap.size + 18, 0, none⟩) 1 1, .bool false, .int .i64 0, .int .i64 0, .slice none 0 0, .int .i64 (-1)] rfl ⟨_, _, rfl, by decide, r18, .inl ⟨rfl, rfl⟩⟩ hb19
 have r20 : Tj.Ctl 2 W2 (.slice (some ⟨W.heap.size + 20, 0, none⟩) 1 1) Tj.small.cs Tj.small.nest 1 := Tj.ctl_succ.2 ⟨[⟨⟨1, 0, [], 0, 0⟩, [], 0, [], 0⟩], Tj.rows_lit1 [.int .i64 1, .int .i64 0, .slice none 0 0, .slice none 0 0, .slice none 0 0] rfl ⟨_, _, _, rfl, by unfold Tj.B64 Rg.B64; decide, Tj.exp_none _, Tj.ctl_succ.2 ⟨[], .inl ⟨rfl, rfl⟩, rfl, rfl, rfl⟩, Tj.ctl_succ.2 ⟨[], .inl ⟨rfl, rfl⟩, rfl, rfl, rfl⟩⟩ hb20, rfl, rfl, rfl⟩
 have r1 : Ns .i64 W2 (.slice (some ⟨W.heap.size + 1, 0, none⟩) 1 1) [0] := Tj.ns_lit [0] rfl hb1 (by decide)
 have hG : Tj.IsG W2 ⟨.string ⟨#[115, 109, 97, 108, 108]⟩, .slice (some ⟨W.heap.size + 4, 0, none⟩) 1 1, .slice (some ⟨W.heap.size + 5, 0, none⟩) 4 4, .slice (some ⟨W.heap.size + 6, 0, none⟩) 1 1, .slice (some ⟨W.heap.size + 15, 0, none⟩) 1 1, .slice (some ⟨W.heap.size + 17, 0, none⟩) 1 1, .slice (some ⟨W.heap.size + 19, 0, none⟩) 1 1, .slice (some ⟨W.heap.size + 20, 0, none⟩) 1 1, .slice (some ⟨W.heap.size + 1, 0, none⟩) 1 1⟩ Tj.small := ⟨⟨⟨rfl, by decide⟩, ⟨⟨⟨_, rfl⟩, r4, r5, ⟨_, _, _, rfl⟩, ⟨_, _, _, rfl⟩, ⟨_, _, _, rfl⟩, ⟨_, _, _, rfl⟩, ⟨_, _, _, rfl⟩, r1⟩, r19⟩, r6, r15, r17, ⟨_, _, r20⟩, by intro x hx; simp [Tj.small] at hx; subst hx; unfold Tj.B64 Rg.B64; decide⟩, by decide, ⟨_, _, _, rfl, by decide, by decide⟩⟩
 have HG := Lh hG
 have HX2 := Lh hx2
 have q0 := cQ 0 hb0
 have q1 := cQ 1 hb0
 have q2 := cQ 2 hb0
 have q3 := cQ 3 hb0
 have q4 := cQ 4 hb0
 have q5 := cQ 5 hb0
 have q6 := cQ 6 hb0
 have q7 := cQ 7 hb0
 have q8 := cQ 8 hb0
 clear hOS hW2 hG hx2 hb0 hb1 hb3 hb4 hb5 hb6 hb7 hb9 hb12 hb14 hb15 hb16 hb17 hb18 hb19 hb20 r1 r3 r4 r5 r6 r7 r9 r12 r14 r15 r16 r17 r18 r19 r20
 go_enter Tryz.func14, Tryz.ntmps14
 go_wp2_with fail
 rw [← HTW.out]
 exact bodyPost_ret (v := .agg #[.string ⟨#[115, 109, 97, 108, 108]⟩, .slice (some ⟨W.heap.size + 4, 0, none⟩) 1 1, .slice (some ⟨W.heap.size + 5, 0, none⟩) 4 4, .slice (some ⟨W.heap.size + 6, 0, none⟩) 1 1, .slice (some ⟨W.heap.size + 15, 0, none⟩) 1 1, .slice (some ⟨W.heap.size + 17, 0, none⟩) 1 1, .slice (some ⟨W.heap.size + 19, 0, none⟩) 1 1, .slice (some ⟨W.heap.size + 20, 0, none⟩) 1 1, .slice (some ⟨W.heap.size + 1, 0, none⟩) 1 1]) (by simp [results, Tryz.results14, go_sem, q0, q1, q2, q3, q4, q5, q6, q7, q8]) rfl ⟨⟨.string ⟨#[115, 109, 97, 108, 108]⟩, .slice (some ⟨W.heap.size + 4, 0, none⟩) 1 1, .slice (some ⟨W.heap.size + 5, 0, none⟩) 4 4, .slice (some ⟨W.heap.size + 6, 0, none⟩) 1 1, .slice (some ⟨W.heap.size + 15, 0, none⟩) 1 1, .slice (some ⟨W.heap.size + 17, 0, none⟩) 1 1, .slice (some ⟨W.heap.size + 19, 0, none⟩) 1 1, .slice (some ⟨W.heap.size + 20, 0, none⟩) 1 1, .slice (some ⟨W.heap.size + 1, 0, none⟩) 1 1⟩, rfl, HX2.out, HG.out⟩
namespace Tj
def op1 : TOp := ⟨1, 0, 0, ⟨[], 0, ⟨0, []⟩⟩, ⟨0, []⟩⟩
def C1 : Cfg := ⟨[[⟨1, ⟨[], 0, ⟨0, []⟩⟩⟩]], [2], [⟨0, []⟩], [[0, 0]]⟩
theorem small_txn : txnE small (empty small) [op1] = 0 := by kernel_rfl
theorem small_run : runsC (empty small) [op1] = C1 := by kernel_rfl
theorem small_cfg : cfgE small C1 = 0 := by kernel_rfl
theorem op1_us : ∀ o ∈ [op1], Jn.us o := by
 intro o ho; simp only [List.mem_singleton] at ho; subst ho
 exact ⟨(fun k hk => by cases hk), (fun x hx => by cases hx), (fun x hx => by cases hx)⟩
theorem small_good : Jn.Good small (empty small) [[op1]] := ⟨⟨small_txn, op1_us⟩, trivial⟩
theorem small_inv : Inv small C1 := by
 have h := Jn.runs_inv small_sz [op1] (empty small) (Jn.empty_inv small_sz small_chk) (Jn.txn_ok small_sz (Jn.empty_inv small_sz small_chk) small_txn).2.2.1
 rw [small_run] at h; exact h
/-- what the example needs of its program -/
structure Ex (F : FP) : Prop where
 sz : Sz F
 chk : chkF F = 0
 txn : txnE F (empty F) [op1] = 0
 run : runsC (empty F) [op1] = C1
 cfg : cfgE F C1 = 0
 good : Jn.Good F (empty F) [[op1]]
 inv : Inv F C1
theorem small_ex : Ex small := ⟨small_sz, small_chk, small_txn, small_run, small_cfg, small_good, small_inv⟩
theorem C1_form {w : World} {v : Value} (h : CfgV w v C1) : ∃ r0 c0 r1 c1 r2 c2 r3 c3, v = .agg #[.slice r0 1 c0, .slice r1 1 c1, .slice r2 1 c2, .slice r3 1 c3] := by
 obtain ⟨r0, c0, r1, c1, r2, c2, r3, c3, e, _⟩ := h.form
 exact ⟨r0, c0, r1, c1, r2, c2, r3, c3, e⟩
end Tj
theorem fld_cfg (a b c d : Option Addr) (m n p q r s t u : Nat) (w : World) : (Instr.field 45 (.agg #[.slice a m n, .slice b p q, .slice c r s, .slice d t u]) 0).run Tryz.prog w = .ok (.slice a m n) w := by kernel_rfl
/-- what a log of the example says -/
structure LogX (w : World) (g : Nat) (bs : List Int) : Prop where
 by_ : ∀ w1, Ext w w1 → Calls Tryz.prog 8 #[.pointer (some ⟨g, 0, none⟩)] w1 (fun e w' => ∃ oa oc, e = .returned (.slice oa bs.length oc) ∧ Ext w1 w' ∧ Byt w' (.slice oa bs.length oc) bs)
 cf : ∀ w1, Ext w w1 → Calls Tryz.prog 7 #[.pointer (some ⟨g, 0, none⟩)] w1 (fun e w' => ∃ r0 c0 r1 c1 r2 c2 r3 c3, e = .returned (.agg #[.slice r0 1 c0, .slice r1 1 c1, .slice r2 1 c2, .slice r3 1 c3]) ∧ Ext w1 w' ∧ Tj.CfgV w' (.agg #[.slice r0 1 c0, .slice r1 1 c1, .slice r2 1 c2, .slice r3 1 c3]) Tj.C1)
theorem log_x {F : Tj.FP} (hF : Tj.Ex F) {W0 w : World} {g n : Nat} {q : Pg.PV} {bs : List Int} (h : LogM W0 w g q F Tj.C1 bs n) (hl : bs.length ≤ 1073741824) : LogX w g bs :=
 ⟨fun w1 hx => (jbytes_any (h.ext hx) hl).mono (by
  rintro e w' ⟨v, h1, h2, h3⟩
  obtain ⟨oa, oc, rfl⟩ := own_slice h3
  obtain ⟨_, _, _, _, _, _, _, _, _, _, _, hby⟩ := h
  exact ⟨oa, oc, h1, h2, Byt.of_own h3 hby⟩), fun w1 hx => (jconfig_any (h.ext hx) hF.sz hF.inv).mono (by
  rintro e w' ⟨d0, d1, d2, d3, h1, h2, h3⟩
  have e1 : Jn.conf F Tj.C1 = Tj.C1 := by unfold Jn.conf; rw [if_pos hF.cfg]
  rw [e1] at h3
  obtain ⟨r0, c0, r1, c1, r2, c2, r3, c3, e⟩ := Tj.C1_form h3.now
  have h4 := h3.now
  rw [e] at h1 h4
  exact ⟨r0, c0, r1, c1, r2, c2, r3, c3, h1, h2, h4⟩)⟩
theorem LogX.ext {w w' : World} {g : Nat} {bs : List Int} (h : LogX w g bs) (hx : Ext w w') : LogX w' g bs := ⟨fun w1 h1 => h.by_ w1 (hx.trans h1), fun w1 h1 => h.cf w1 (hx.trans h1)⟩
theorem jworks_any (W : World) : Calls Tryz.prog 5 #[] W (Rets W (.bool true)) := by
 obtain ⟨F, hF⟩ : ∃ z, z = Tj.small := ⟨_, rfl⟩
 have HF : Hid (Tj.Ex F) := Lh (by rw [hF]; exact Tj.small_ex)
 have HSP : Hid (∀ w, Calls Tryz.prog 14 #[] w (fun e w' => ∃ p : Pg.PV, e = .returned p.val ∧ Ext w w' ∧ Tj.IsG w' p F)) := Lh (fun w => by rw [hF]; exact smallp_any w)
 clear hF
 go_enter Tryz.func5, Tryz.ntmps5
 go_wp2_with fail
 refine (HSP.out _).mono ?_
 rintro e w1 ⟨p, rfl, x1, hG⟩
 have s1 := Sm x1
 clear x1
 have hFF := hG.1
 obtain ⟨a1, a2, a3, a4, a5, a6, a7, a8, m1, m2, m3, m4, m5, m6, n7, m7, m8, hf⟩ := hFF.form
 obtain ⟨rfl, hnm, hhs, hmd, hrs, has, hts, hss, hct, hdp, l1, l2, l3, l4, l5, l6, l7, l8⟩ := hf
 clear hFF hnm hhs hmd hrs has hts hss hct hdp
 dsimp only [Pg.PV.val] at *
 have HNW : Hid (∀ w, Ext w1 w → Calls Tryz.prog 6 #[.agg (Yq0 F a1 m1 a2 m2 a3 m3 a4 m4 a5 m5 a6 m6 a7 m7 n7 a8 m8)] w (fun e w' => ∃ g q W0, e = .returned (.tuple #[.pointer (some ⟨g, 0, none⟩), .int .i64 0]) ∧ Ext w w' ∧ Ext w W0 ∧ LogM W0 w' g q F (Tj.empty F) [] 0)) := Lh (fun w hx => (jnew_any (p := ⟨.string F.nm, .slice a1 F.P.hs.length m1, .slice a2 F.P.md.length m2, .slice a3 F.rs.length m3, .slice a4 F.ac.length m4, .slice a5 F.ts.length m5, .slice a6 F.ss.length m6, .slice a7 n7 m7, .slice a8 F.P.dp.length m8⟩) (hG.ext hx) HF.out.sz).mono (by
  rintro e w' ⟨hx, ⟨h, _⟩ | ⟨_, g, q, W0, h1, h2, h3⟩⟩
  ·exact absurd HF.out.chk h
  ·exact ⟨g, q, W0, h1, hx, h2, h3⟩))
 have HOP : Hid (∀ w v, Ext w1 w → Byt w v (Cs.fr (Jn.enc [Tj.op1])) → Calls Tryz.prog 11 #[.agg (Yq0 F a1 m1 a2 m2 a3 m3 a4 m4 a5 m5 a6 m6 a7 m7 n7 a8 m8), v] w (fun e w' => ∃ g q W0 bs, e = .returned (.tuple #[.pointer (some ⟨g, 0, none⟩), .int .i64 ((Cs.fr (Jn.enc [Tj.op1])).length : Int), .int .i64 0]) ∧ Ext w w' ∧ LogM W0 w' g q F Tj.C1 bs 1)) := Lh (fun w v hx hv => (jopen_any (p := ⟨.string F.nm, .slice a1 F.P.hs.length m1, .slice a2 F.P.md.length m2, .slice a3 F.rs.length m3, .slice a4 F.ac.length m4, .slice a5 F.ts.length m5, .slice a6 F.ss.length m6, .slice a7 n7 m7, .slice a8 F.P.dp.length m8⟩) (T := [[Tj.op1]]) (k := (Jn.bsOf [[Tj.op1]]).length) (hG.ext hx) HF.out.sz HF.out.chk HF.out.good (by decide) (Nat.le_refl _) (by rw [List.take_of_length_le (Nat.le_refl _), Jn.bs_one]; exact hv)).mono (by
  rintro e w' ⟨g, q, W0, j, u, bs, h1, h2, _, h4, _, _, h7, h8⟩
  obtain rfl : j = 1 := h7 rfl
  have e1 : Jn.cfgOf F (List.take 1 [[Tj.op1]]) = Tj.C1 := HF.out.run
  have e2 : (Jn.bsOf (List.take 1 [[Tj.op1]])).length = (Cs.fr (Jn.enc [Tj.op1])).length := by rw [show List.take 1 [[Tj.op1]] = [[Tj.op1]] from rfl, Jn.bs_one]
  rw [e1] at h4
  rw [e2] at h8
  rw [h8] at h1
  exact ⟨g, q, W0, bs, h1, h2, h4⟩))
 clear hG
 have bx := aH w1 (.cells (Yq0 F a1 m1 a2 m2 a3 m3 a4 m4 a5 m5 a6 m6 a7 m7 n7 a8 m8) 31)
 have k0 := alw (cQ 0 bx)
 have k1 := alw (cQ 1 bx)
 have k2 := alw (cQ 2 bx)
 have k3 := alw (cQ 3 bx)
 have k4 := alw (cQ 4 bx)
 have k5 := alw (cQ 5 bx)
 have k6 := alw (cQ 6 bx)
 have k7 := alw (cQ 7 bx)
 have k8 := alw (cQ 8 bx)
 clear bx
 go_wp2_with fail
 refine (HNW.out _ grows).mono ?_
 rintro e w3 ⟨g, q, W0, rfl, x3, x0, hlg⟩
 have s3 := Sm x3
 have HX0 : Hid (Ext (w1.alloc (.cells (Yq0 F a1 m1 a2 m2 a3 m3 a4 m4 a5 m5 a6 m6 a7 m7 n7 a8 m8) 31)) W0) := Lh x0
 have e0 : ∀ w', (binOp .eql 37 (.pointer (some ⟨g, 0, none⟩)) (.pointer none)).run Tryz.prog w' = .ok (.bool false) w' := fun _ => rfl
 have HCM : Hid (Calls Tryz.prog 9 #[.pointer (some ⟨g, 0, none⟩), .slice (some ⟨w3.heap.size, 0, none⟩) 1 1] (w3.alloc (.cells (Yq31 ) 67)) (fun e w' => ∃ idv at_, e = .returned (.tuple #[idv, .int .i64 at_, .int .i64 0]) ∧ Ext (w1.alloc (.cells (Yq0 F a1 m1 a2 m2 a3 m3 a4 m4 a5 m5 a6 m6 a7 m7 n7 a8 m8) 31)) w' ∧ LogM W0 w' g q F Tj.C1 (Cs.fr (Jn.enc [Tj.op1])) 1)) := Lh ((jcommit_any (l := [Tj.op1]) (hlg.ext grows) HF.out.sz (Jn.empty_inv HF.out.sz HF.out.chk) (by decide) (by decide) (fun w' hm => Tj.rows_lit1 [.int .i64 1, .int .i64 0, .int .i64 0, .slice none 0 0, .int .i64 0, .int .i64 0, .slice none 0 0, .int .i64 0, .slice none 0 0] rfl ⟨none, 0, none, 0, none, 0, rfl, by unfold Tj.B64 Rg.B64; decide, .inl ⟨rfl, rfl⟩, ⟨Tj.ns_none _ _, by intro x hx; cases hx⟩, Tj.ns_none _ _, by intro x hx; cases hx⟩ ((SL.kp hm) _ _ _ _ (by decide) (aH w3 _)))).mono (by
  rintro e w' ⟨idv, at_, h1, h2, _, h4⟩
  have h5 := h4 HF.out.txn
  rw [HF.out.run] at h5
  rw [HF.out.txn] at h1
  exact ⟨idv, at_, h1, (grows (a := (w1.alloc (.cells (Yq0 F a1 m1 a2 m2 a3 m3 a4 m4 a5 m5 a6 m6 a7 m7 n7 a8 m8) 31))) (b := (w3.alloc (.cells (Yq31 ) 67)))).mod h2 (fun i hi => Nat.le_trans HX0.out.le hi.1), h5⟩))
 clear x3 x0 hlg
 go_wp2_with fail
 refine HCM.out.mono ?_
 rintro e w4 ⟨idv, at_, rfl, x4, hl4⟩
 have s4 : Step (w1.alloc (.cells (Yq0 F a1 m1 a2 m2 a3 m3 a4 m4 a5 m5 a6 m6 a7 m7 n7 a8 m8) 31)) w4 := Sm x4
 obtain ⟨bs1, hb1⟩ : ∃ z, z = Cs.fr (Jn.enc [Tj.op1]) := ⟨_, rfl⟩
 rw [← hb1] at HOP hl4
 have hbl : bs1.length ≤ 1073741824 := by rw [hb1]; decide +kernel
 have hxg := log_x HF.out hl4 hbl
 obtain ⟨N, hN⟩ : ∃ z, z = bs1.length := ⟨_, rfl⟩
 have HN := Lh hN
 rw [← hN] at HOP hbl
 have HX1 := Lh hxg
 have HXB : Hid (∀ w1, Ext w4 w1 → Calls Tryz.prog 8 #[.pointer (some ⟨g, 0, none⟩)] w1 (fun e w' => ∃ oa oc, e = .returned (.slice oa N oc) ∧ Ext w1 w' ∧ Byt w' (.slice oa N oc) bs1)) := Lh (by rw [hN]; exact hxg.by_)
 have HX4 : Hid (Ext w1 w4) := Lh grows
 clear hl4 hxg hb1 x4 HCM HNW hN
 go_wp2_with fail
 refine Rel.region_tail (W := w4) 10 (Rel.tab [(2, fun v w => ∃ oa oc, v = .slice oa N oc ∧ Byt w (.slice oa N oc) bs1), (3, fun v w => ∃ g2, v = .tuple #[.pointer (some ⟨g2, 0, none⟩), .int .i64 (N : Int), .int .i64 0] ∧ ∃ W2 q2 b2 n2, LogM W2 w g2 q2 F Tj.C1 b2 n2)]) (Rel.tab_lasts (by
  intro p hp v w w' hr hx
  simp only [List.mem_cons, List.not_mem_nil, or_false] at hp
  rcases hp with rfl | rfl
  ·obtain ⟨oa, oc, h1, h2⟩ := hr; exact ⟨oa, oc, h1, h2.ext hx⟩
  ·obtain ⟨g2, h1, W2, q2, b2, n2, h2⟩ := hr; exact ⟨g2, h1, W2, q2, b2, n2, h2.ext hx⟩)) (by kernel_rfl) (by kernel_rfl) (eR _) ?_
 simp only [tkS, tkZ]
 refine Rel.chunkT 2 rfl rfl rfl ?_
 simp only [tkS, tkZ, dpS, dpZ, Nat.reduceAdd]
 repeat (go_big_quiet_step (fail))
 refine wpQuiet_nil ?_
 refine Rel.callG _ rfl rfl rfl Tryz.func8 (by nofun) (by decide) #[.pointer (some ⟨g, 0, none⟩)] rfl (fun w hx _ => by refine (HXB.out w hx).mono ?_; rintro e w9 ⟨oa, oc, h1, h2, h3⟩; exact ⟨_, h1, h2, oa, oc, rfl, h3⟩) ?_
 intro u1 v1 _ _ r1
 obtain ⟨oa, oc, rfl, r1⟩ := r1
 clear r1
 simp only [Act.put, stA, stS, stZ]
 refine Rel.callG _ rfl rfl rfl Tryz.func11 (by nofun) (by decide) #[.agg (Yq0 F a1 m1 a2 m2 a3 m3 a4 m4 a5 m5 a6 m6 a7 m7 n7 a8 m8), .slice oa N oc] rfl (fun w hx hf => by
  obtain ⟨oa', oc', h1, h2⟩ := (hf 2 (by kernel_rfl)).2 rfl
  simp only [Value.slice.injEq, true_and] at h1
  obtain ⟨rfl, rfl⟩ := h1
  refine (HOP.out w _ (HX4.out.trans hx) h2).mono ?_; rintro e w9 ⟨g2, q2, W2, b2, h1, h2, h3⟩; exact ⟨_, h1, h2, g2, rfl, W2, q2, b2, 1, h3⟩) ?_
 intro u2 v2 _ _ r2
 obtain ⟨g2, rfl, r2⟩ := r2
 clear r2
 simp only [Act.put, stA, stS, stZ]
 refine Rel.chunkT 6 rfl rfl rfl ?_
 simp only [tkS, tkZ, dpS, dpZ, Nat.reduceAdd]
 repeat (go_big_quiet_step (fail))
 refine wpQuiet_nil ?_
 refine Rel.fin ?_
 intro w6 x6 hf6
 obtain ⟨g2', e2, W2, q2, b2, n2, hl6⟩ := (hf6 3).2 rfl
 simp only [Value.tuple.injEq, Array.mk.injEq, List.cons.injEq, Value.pointer.injEq, Option.some.injEq, Addr.mk.injEq, and_true] at e2
 subst e2
 have s6 := Sm x6
 have HXB6 : Hid (∀ w1, Ext w6 w1 → Calls Tryz.prog 8 #[.pointer (some ⟨g, 0, none⟩)] w1 (fun e w' => ∃ oa oc, e = .returned (.slice oa N oc) ∧ Ext w1 w' ∧ Byt w' (.slice oa N oc) bs1)) := Lh (fun w h => HXB.out w (x6.trans h))
 have HXg : Hid (LogX w6 g bs1) := Lh (HX1.out.ext x6)
 have HXh : Hid (∀ w1, Ext w6 w1 → Calls Tryz.prog 7 #[.pointer (some ⟨g2, 0, none⟩)] w1 (fun e w' => ∃ r0 c0 r1 c1 r2 c2 r3 c3, e = .returned (.agg #[.slice r0 1 c0, .slice r1 1 c1, .slice r2 1 c2, .slice r3 1 c3]) ∧ Ext w1 w' ∧ Tj.CfgV w' (.agg #[.slice r0 1 c0, .slice r1 1 c1, .slice r2 1 c2, .slice r3 1 c3]) Tj.C1)) := Lh (fun w1 hx => (jconfig_any (hl6.ext hx) HF.out.sz HF.out.inv).mono (by
  rintro e w' ⟨d0, d1, d2, d3, h1, h2, h3⟩
  have e1 : Jn.conf F Tj.C1 = Tj.C1 := by unfold Jn.conf; rw [if_pos HF.out.cfg]
  rw [e1] at h3
  obtain ⟨r0, c0, r1, c1, r2, c2, r3, c3, e⟩ := Tj.C1_form h3.now
  have h4 := h3.now
  rw [e] at h1 h4
  exact ⟨r0, c0, r1, c1, r2, c2, r3, c3, h1, h2, h4⟩))
 have e3 : ∀ w', (binOp .neq 37 (.pointer (some ⟨g2, 0, none⟩)) (.pointer none)).run Tryz.prog w' = .ok (.bool true) w' := fun _ => rfl
 clear hf6 hl6 x6
 go_wp2_with fail
 refine (HXB6.out _ grows).mono ?_
 rintro e w7 ⟨oa7, oc7, rfl, x7, hb7⟩
 have s7 := Sm x7
 clear hb7 x7
 go_wp2_with fail
 refine (HXg.out.cf _ grows).mono ?_
 rintro e w8 ⟨r01, c01, r11, c11, r21, c21, r31, c31, rfl, xw8, hc1⟩
 have sw8 := Sm xw8
 have HC1 := Lh hc1
 have hf1 := fld_cfg r01 r11 r21 r31 1 c01 1 c11 1 c21 1 c31
 clear hc1 xw8
 go_wp2_with fail
 refine (HXg.out.cf _ grows).mono ?_
 rintro e w9 ⟨r02, c02, r12, c12, r22, c22, r32, c32, rfl, xw9, hc2⟩
 have sw9 := Sm xw9
 have HC2 := Lh hc2
 have hf2 := fld_cfg r02 r12 r22 r32 1 c02 1 c12 1 c22 1 c32
 clear hc2 xw9
 obtain ⟨pb, po, rfl, hcell⟩ : ∃ pb po, r02 = some ⟨pb, po, none⟩ ∧ ∃ ra rc, w9.cell? ⟨pb, po, none⟩ = some (.slice ra 1 rc) := by
  obtain ⟨v0, v1, v2, v3, e, hr, _⟩ := HC2.out
  simp only [Value.agg.injEq, Array.mk.injEq, List.cons.injEq, and_true] at e
  obtain ⟨rfl, _⟩ := e
  obtain ⟨pb, po, h1, _, h2⟩ := Rows.at hr (by decide)
  obtain ⟨cs, _, ⟨v, rfl, hv⟩, hc⟩ := h2 0 _ rfl
  obtain ⟨ra, rc, rfl, _⟩ := Rows.slice hv
  have t := hc 0 _ rfl
  rw [Nat.zero_mul, Nat.add_zero] at t
  exact ⟨pb, po, h1, ra, rc, t⟩
 obtain ⟨ra, rc, hcell⟩ := hcell
 have y9 := alw hcell
 clear hcell
 go_wp2_with fail
 refine (HXg.out.cf _ grows).mono ?_
 rintro e w10 ⟨r03, c03, r13, c13, r23, c23, r33, c33, rfl, xw10, hc3⟩
 have sw10 := Sm xw10
 have HC3 := Lh hc3
 have hf3 := fld_cfg r03 r13 r23 r33 1 c03 1 c13 1 c23 1 c33
 clear hc3 xw10
 go_wp2_with fail
 refine (HXh.out _ grows).mono ?_
 rintro e w11 ⟨r04, c04, r14, c14, r24, c24, r34, c34, rfl, xw11, hc4⟩
 have HEQ : Hid (Calls Tryz.prog 15 #[.agg #[.slice r03 1 c03, .slice r13 1 c13, .slice r23 1 c23, .slice r33 1 c33], .agg #[.slice r04 1 c04, .slice r14 1 c14, .slice r24 1 c24, .slice r34 1 c34]] w11 (Rets w11 (.bool true))) := Lh (steq_any (C := Tj.C1) (HC3.out.ext xw11) hc4 HF.out.inv.cb)
 have sw11 := Sm xw11
 clear xw11 hc4
 go_wp2_with fail
 refine HEQ.out.mono ?_
 rintro e w12 ⟨rfl, x12⟩
 have s12 := Sm x12
 go_wp2_with fail
 go_ret
 exact ⟨rfl, grows⟩
theorem own_cells {w : World} {B g size n : Nat} {e : TypeId} {xs : List Value} (hg : w.heap[g]? = some (.cells xs.toArray e (0, 0))) (hb : B ≤ g) (hl : xs.length = n * size) (hn : n ≤ maxLen) : w.ownsRow B e size (.slice (some ⟨g, 0, none⟩) n n) n xs :=
 ⟨hl, .inr ⟨g, n, _, rfl, hb, hg, Nat.le_refl _, hn, by simpa using hl, by simp [hl.symm]⟩⟩
namespace Jn
open Tj
/-- what the log says after each of its transactions -/
def sts (F : FP) (T : List (List TOp)) : List Cfg := (List.range (T.length + 1)).map (fun j => conf F (cfgOf F (T.take j)))
theorem sts_len (F : FP) (T : List (List TOp)) : (sts F T).length = T.length + 1 := by simp [sts]
theorem sts_at {F : FP} {T : List (List TOp)} {j : Nat} (h : j ≤ T.length) : (sts F T)[j]? = some (conf F (cfgOf F (T.take j))) := by
 unfold sts
 rw [List.getElem?_map, List.getElem?_range (by omega)]; rfl
theorem sts_snoc (F : FP) (T : List (List TOp)) (l : List TOp) : sts F (T ++ [l]) = sts F T ++ [conf F (cfgOf F (T ++ [l]))] := by
 unfold sts
 rw [List.length_append, List.length_singleton, List.range_succ (n := T.length + 1), List.map_append]
 congr 1
 ·refine List.map_congr_left fun j hj => ?_
  rw [List.take_append_of_le_length (by have := List.mem_range.1 hj; omega)]
 ·rw [List.map_cons, List.map_nil, List.take_of_length_le (by simp)]
theorem conf_cb {F : FP} {C : Cfg} (h : Inv F C) : CB (conf F C) := by
 unfold conf
 by_cases hc : cfgE F C = 0
 ·rw [if_pos hc]; exact h.cb
 ·rw [if_neg hc]; exact ⟨(by decide), (fun _ h => by cases h), (by decide), (by decide), (fun _ h => by cases h), (by decide), (fun _ h => by cases h)⟩
theorem good_inv {F : FP} (hz : Sz F) (hc : chkF F = 0) {T : List (List TOp)} (h : Good F (empty F) T) (j : Nat) : Inv F (cfgOf F (T.take j)) := (good_at hz T (empty F) j (empty_inv hz hc) h).1
theorem good_inv' {F : FP} (hz : Sz F) (hc : chkF F = 0) {T : List (List TOp)} (h : Good F (empty F) T) : Inv F (cfgOf F T) := by
 have := good_inv hz hc h T.length
 rwa [List.take_of_length_le (Nat.le_refl _)] at this
theorem bs_snoc (T : List (List TOp)) (l : List TOp) : bsOf (T ++ [l]) = bsOf T ++ Cs.fr (enc l) := by rw [bs_app, bs_one]
theorem cfg_snoc (F : FP) (T : List (List TOp)) (l : List TOp) : cfgOf F (T ++ [l]) = runsC (cfgOf F T) l := by unfold cfgOf; rw [List.foldl_append]; rfl
end Jn
/-- the log's blocks stay -/
theorem LogM.kp {W0 w w' : World} {g n : Nat} {p : Pg.PV} {F : Tj.FP} {C : Tj.Cfg} {bs : List Int} (h : LogM W0 w g p F C bs n) (hx : Ext W0 w') (k : Kp (75 :: 5 :: Tj.CfT) w w') : LogM W0 w' g p F C bs n := by
 obtain ⟨h1, h2, h3, d0, d1, d2, d3, rv, h4, h5, h6, h7⟩ := h
 exact ⟨hx, h2, h3, d0, d1, d2, d3, rv, k _ _ _ _ (by decide) h4, ⟨h5.1.kp (k.sub (by decide)), h5.2⟩, own_kp h6 k (by decide), h7⟩
/-- a log at g that holds the transactions T -/
structure LogS (W0 w : World) (g : Nat) (q : Pg.PV) (F : Tj.FP) (T : List (List Tj.TOp)) : Prop where
 log : LogM W0 w g q F (Jn.cfgOf F T) (Jn.bsOf T) T.length
 good : Jn.Good F (Tj.empty F) T
theorem LogS.ext {W0 w w' : World} {g : Nat} {q : Pg.PV} {F : Tj.FP} {T : List (List Tj.TOp)} (h : LogS W0 w g q F T) (hx : Ext w w') : LogS W0 w' g q F T := ⟨h.log.ext hx, h.good⟩
/-- a configuration's cells -/
def CfgC (w : World) (cs : List Value) (C : Tj.Cfg) : Prop := ∃ r0 k0 c0 r1 k1 c1 r2 k2 c2 r3 k3 c3, cs = [.slice r0 k0 c0, .slice r1 k1 c1, .slice r2 k2 c2, .slice r3 k3 c3] ∧ Tj.CfgS w (.agg #[.slice r0 k0 c0, .slice r1 k1 c1, .slice r2 k2 c2, .slice r3 k3 c3]) C
theorem CfgC.kp {Ts : List TypeId} {w w' : World} {cs : List Value} {C : Tj.Cfg} (h : CfgC w cs C) (k : Kp Ts w w') (hs : ∀ t ∈ Tj.CfT, t ∈ Ts) : CfgC w' cs C := by
 obtain ⟨r0, k0, c0, r1, k1, c1, r2, k2, c2, r3, k3, c3, e, h⟩ := h
 exact ⟨r0, k0, c0, r1, k1, c1, r2, k2, c2, r3, k3, c3, e, h.kp (k.sub hs)⟩
theorem cfgS_form {w : World} {v : Value} {C : Tj.Cfg} (h : Tj.CfgS w v C) : ∃ r0 k0 c0 r1 k1 c1 r2 k2 c2 r3 k3 c3, v = .agg #[.slice r0 k0 c0, .slice r1 k1 c1, .slice r2 k2 c2, .slice r3 k3 c3] ∧ Tj.CfgS w (.agg #[.slice r0 k0 c0, .slice r1 k1 c1, .slice r2 k2 c2, .slice r3 k3 c3]) C := by
 obtain ⟨r0, c0, r1, c1, r2, c2, r3, c3, e, _⟩ := h.now.form
 rw [e] at h
 exact ⟨r0, _, c0, r1, _, c1, r2, _, c2, r3, _, c3, e, h⟩
/-- the list of states -/
abbrev StL (B : Nat) (w : World) (v : Value) (l : List Tj.Cfg) : Prop := Tj.OL B 45 4 CfgC w v l
theorem StL.one {B g : Nat} {w : World} {C : Tj.Cfg} {cs : List Value} (hg : w.heap[g]? = some (.cells cs.toArray 45 (0, 0))) (hb : B ≤ g) (h : CfgC w cs C) : StL B w (.slice (some ⟨g, 0, none⟩) 1 1) [C] := by
 have h' := h
 obtain ⟨r0, k0, c0, r1, k1, c1, r2, k2, c2, r3, k3, c3, rfl, _⟩ := h'
 refine ⟨[[.slice r0 k0 c0, .slice r1 k1 c1, .slice r2 k2 c2, .slice r3 k3 c3]], rfl, by simp, by simp [Value.oneCell'], own_cells (by simpa using hg) hb (by rfl) (by unfold maxLen; decide), fun i cs d h1 h2 => ?_⟩
 match i, h1, h2 with
 | 0, h1, h2 =>
  simp only [List.getElem?_cons_zero, Option.some.injEq] at h1 h2
  subst h1 h2; exact h
 | i + 1, h1, _ => simp at h1
theorem cinf_Cfg : (Tryz.prog.info? 45).map (fun i => (i.zero, i.size, i.bytes)) = some (some (.agg (Yq5 )), 4, 96) := by kernel_rfl
theorem logs_cf {W0 w w1 : World} {g : Nat} {q : Pg.PV} {F : Tj.FP} {T : List (List Tj.TOp)} (h : LogS W0 w g q F T) (hz : Tj.Sz F) (hc : Tj.chkF F = 0) (hx : Ext w w1) : Calls Tryz.prog 7 #[.pointer (some ⟨g, 0, none⟩)] w1 (fun e w' => ∃ r0 k0 c0 r1 k1 c1 r2 k2 c2 r3 k3 c3, e = .returned (.agg #[.slice r0 k0 c0, .slice r1 k1 c1, .slice r2 k2 c2, .slice r3 k3 c3]) ∧ Ext w1 w' ∧ Tj.CfgS w' (.agg #[.slice r0 k0 c0, .slice r1 k1 c1, .slice r2 k2 c2, .slice r3 k3 c3]) (Jn.conf F (Jn.cfgOf F T))) :=
 (jconfig_any (h.log.ext hx) hz (Jn.good_inv' hz hc h.good)).mono (by
  rintro e w' ⟨d0, d1, d2, d3, h1, h2, h3⟩
  obtain ⟨r0, k0, c0, r1, k1, c1, r2, k2, c2, r3, k3, c3, e1, h4⟩ := cfgS_form h3
  rw [e1] at h1
  exact ⟨r0, k0, c0, r1, k1, c1, r2, k2, c2, r3, k3, c3, h1, h2, h4⟩)
theorem logs_len {W0 w : World} {g : Nat} {q : Pg.PV} {F : Tj.FP} {T : List (List Tj.TOp)} (h : LogS W0 w g q F T) (hz : Tj.Sz F) (hc : Tj.chkF F = 0) (h10 : T.length ≤ 10) : (Jn.bsOf T).length ≤ 3000080 := by
 have := Jn.bs_len (T := T) (fun l hl => (Jn.good_enc hz (Jn.empty_inv hz hc) h.good l hl).1)
 omega
theorem logs_by {W0 w w1 : World} {g : Nat} {q : Pg.PV} {F : Tj.FP} {T : List (List Tj.TOp)} (h : LogS W0 w g q F T) (hl : (Jn.bsOf T).length ≤ 3000080) (hx : Ext w w1) : Calls Tryz.prog 8 #[.pointer (some ⟨g, 0, none⟩)] w1 (fun e w' => ∃ oa oc, e = .returned (.slice oa (Jn.bsOf T).length oc) ∧ Ext w1 w' ∧ Byt w' (.slice oa (Jn.bsOf T).length oc) (Jn.bsOf T)) :=
 (jbytes_any (h.log.ext hx) (by omega)).mono (by
  rintro e w' ⟨v, h1, h2, h3⟩
  obtain ⟨oa, oc, rfl⟩ := own_slice h3
  obtain ⟨_, _, _, _, _, _, _, _, _, _, _, hby⟩ := h.log
  exact ⟨oa, oc, h1, h2, Byt.of_own h3 hby⟩)
/-- a commit -/
theorem logs_co {Wx W0 w w1 : World} {g : Nat} {q : Pg.PV} {F : Tj.FP} {T : List (List Tj.TOp)} (h : LogS W0 w g q F T) (hz : Tj.Sz F) (hc : Tj.chkF F = 0) (h10 : T.length ≤ 10) (hx : Ext w w1) (h0 : Ext Wx W0) (hw : Ext Wx w1) {lv : Value} {l : List Tj.TOp} (hv : Rows Wx 9 Tj.TOpR lv l) :
 Calls Tryz.prog 9 #[.pointer (some ⟨g, 0, none⟩), lv] w1 (fun e w' => ∃ idv at_ z, e = .returned (.tuple #[idv, .int .i64 at_, .int .i64 z]) ∧ Ext Wx w' ∧ Kp KL w1 w' ∧ ((z ≠ 0 ∧ LogS W0 w' g q F T) ∨ (z = 0 ∧ LogS W0 w' g q F (T ++ [l])))) := by
 have hlen := logs_len h hz hc h10
 have hle : Wx.heap.size ≤ W0.heap.size := h0.le
 refine (jcommit_any (h.log.ext hx) hz (Jn.good_inv' hz hc h.good) (by omega) (by omega) (fun w' hm => Rows.ext hv (fun _ _ h => h.ext (hw.mod hm (fun i hi => Nat.le_trans hle hi.1))) (hw.mod hm (fun i hi => Nat.le_trans hle hi.1)))).mono ?_
 rintro e w' ⟨idv, at_, h1, h2, h3, h4⟩
 refine ⟨idv, at_, _, h1, hw.mod h2 (fun i hi => Nat.le_trans hle hi.1), SL.kp h2, ?_⟩
 by_cases hz0 : Tj.txnE F (Jn.cfgOf F T) l = 0
 ·refine .inr ⟨hz0, ⟨?_, Jn.good_snoc T _ l h.good hz0 (Jn.us_all hv)⟩⟩
  have h5 := h4 hz0
  rw [Jn.cfg_snoc, Jn.bs_snoc, List.length_append, List.length_singleton]; exact h5
 ·exact .inl ⟨hz0, h3 hz0, h.good⟩
end Go.Proofs.YthmokhkkdgnbhaaGreat
