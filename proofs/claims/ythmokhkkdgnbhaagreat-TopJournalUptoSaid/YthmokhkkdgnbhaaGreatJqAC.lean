/- Parsers: a state checked, walked (the package). Parsers: Check, walked (the package): the names that were met are kept in a map. The deparser's list: Check, its data; slices.Index and slices.Contains of ints, walked. The deparser's list: Check and the reference's Check, walked. Registers: their data; Check of the package and of its reference, walked. Registers: equal lists of values and equal tables, walked. Registers: CheckContents, has, Read and their references; TooLarge, walked. Registers: tables of rows of values that the code has made itself. No program in sight. No condition. -/
import Derived.Test.YthmokhkkdgnbhaaGreatJqAB
import Derived.Maps.Own
import Derived.Maps.Views
import Derived.StringKeys
set_option maxRecDepth 8000
set_option maxHeartbeats 16000000
namespace Go.Proofs.YthmokhkkdgnbhaaGreat
open Go.RowKit
namespace Ps
theorem stE_lim {P : Pg.Prog} {n s : Nat} {x : St} (h : 4 < x.ex.length ∨ 8 < x.cs.length) : stE P n s x = (-1, 12) := by
 unfold stE; rw [if_pos (by simpa using h)]
theorem stE_lim' {P : Pg.Prog} {n s : Nat} {x : St} (h1 : ¬ 4 < x.ex.length) (h2 : ¬ 8 < x.cs.length) : stE P n s x = if !(exB P.hs.length x.ex) then (-1, 8) else
 if x.sel && (Pg.wid P x.h x.f == 0) then (-1, 8) else
 if !x.sel && decide (0 < x.cs.length) then (-1, 11) else
 if (csE (Pg.wid P x.h x.f) n s x.cs).2 = 0 then (if leads n s x.df then (0, 0) else (-1, 14)) else csE (Pg.wid P x.h x.f) n s x.cs := by
 unfold stE; rw [if_neg (by simpa using ⟨Nat.not_lt.1 h1, Nat.not_lt.1 h2⟩)]
theorem exB_no {n : Nat} {ex : List Int} {k : Nat} {y : Int} (hk : ex[k]? = some y) (h : y < 0 ∨ (n : Int) ≤ y) : exB n ex = false := by
 refine Pg.all_no (List.getElem?_eq_some_iff.1 hk).1 ?_
 rw [List.getD_eq_getElem?_getD, hk]
 show (decide (0 ≤ y) && decide (y < n)) = false
 rcases h with h | h
 ·rw [dF (by omega)]; rfl
 ·rw [dF (p := y < n) (by omega), Bool.and_false]
theorem exB_yes {n : Nat} {ex : List Int} (h : ∀ j, j < ex.length → (decide (0 ≤ ex.getD j 0) && decide (ex.getD j 0 < n)) = true) : exB n ex = true := Pg.all_yes h
end Ps
theorem cstate_any {W : World} {p : Pg.PV} {P : Pg.Prog} {ss : List Ps.St} (hq : Ps.IsQ W p P ss) (k : Nat) (x : Ps.St) (hk : ss[k]? = some x) : Calls Tryz.prog 133 #[p.val, .int .i64 k] W (Rets W (.tuple #[.int .i64 (Ps.stE P ss.length k x).1, .int .i64 (Ps.stE P ss.length k x).2])) := by
 obtain ⟨s, a1, a2, a3, a4, a5, a6, a7, a8, m1, m2, n3, m3, n4, m4, n5, m5, n6, m6, n7, m7, m8, hf⟩ := hq.1.form
 obtain ⟨rfl, hhs, hmd, _, hl1, hl2, _⟩ := hf
 have hss := hq.2
 dsimp only at hss
 obtain ⟨a6', m6', e6, hl6, hc6⟩ := hss.slice
 simp only [Value.slice.injEq] at e6
 obtain ⟨rfl, rfl, rfl⟩ := e6
 unfold maxLen at hc6
 obtain ⟨ab, ao, rfl, _, _⟩ := hss.at (by have := (List.getElem?_eq_some_iff.1 hk).1; omega)
 have hkl : k < ss.length := (List.getElem?_eq_some_iff.1 hk).1
 obtain ⟨ea, ec, ca, cc, hnm, hex, hcs, hcl, hcm, g0, g1, g2, g3, g4, g5, g6⟩ := st_at hss k x hk rfl
 obtain ⟨wd, hwd⟩ : ∃ z, z = Pg.wid P x.h x.f := ⟨_, rfl⟩
 have HWD : Hid (Pg.wid P x.h x.f = wd) := Lh hwd.symm
 obtain ⟨lb, hlb⟩ : ∃ z, z = Ps.leads ss.length k x.df := ⟨_, rfl⟩
 have HW : Hid (∀ w, Ext W w → Calls Tryz.prog 165 #[.agg (Yq2 s a1 m1 P a2 m2 a3 m3 n3 a4 m4 n4 a5 m5 n5 ab ao m6 ss.length a7 m7 n7 a8 m8), .agg #[.int .i64 x.h, .int .i64 x.f]] w (Rets w (.int .i64 wd))) := Lh (fun w hx => by have h := width_any (hq.1.ext hx) x.h x.f; rw [← hwd] at h; exact h)
 have HLD : Hid (∀ w, Ext W w → Calls Tryz.prog 168 #[.agg (Yq2 s a1 m1 P a2 m2 a3 m3 n3 a4 m4 n4 a5 m5 n5 ab ao m6 ss.length a7 m7 n7 a8 m8), .int .i64 k, .int .i64 x.df] w (Rets w (.bool lb))) := Lh (fun w hx => by have h := leads_any (hq.ext hx) k x.df; rw [← hlb] at h; exact h)
 obtain ⟨R, hR⟩ : ∃ z, z = Ps.stE P ss.length k x := ⟨_, rfl⟩
 rw [← hR]
 have HQ := Lh hq
 have HK := Lh hk
 have HCS := Lh hcs
 have HLB := Lh hlb
 have y0 := alw g0
 have y1 := alw g1
 have y2 := alw g2
 have y3 := alw g3
 have y4 := alw g4
 have y5 := alw g5
 have y6 := alw g6
 have bx := aH W (.cells (Yq2 s a1 m1 P a2 m2 a3 m3 n3 a4 m4 n4 a5 m5 n5 ab ao m6 ss.length a7 m7 n7 a8 m8) 31)
 have pc0 := alw (cQ 0 bx)
 have pc1 := alw (cQ 1 bx)
 have pc2 := alw (cQ 2 bx)
 have pc3 := alw (cQ 3 bx)
 have pc4 := alw (cQ 4 bx)
 have pc5 := alw (cQ 5 bx)
 have pc6 := alw (cQ 6 bx)
 have pc7 := alw (cQ 7 bx)
 have pc8 := alw (cQ 8 bx)
 clear bx
 have bx := aH (W.alloc (.cells (Yq2 s a1 m1 P a2 m2 a3 m3 n3 a4 m4 n4 a5 m5 n5 ab ao m6 ss.length a7 m7 n7 a8 m8) 31)) (.cells #[.string x.nm, .slice ea x.ex.length ec, .bool x.sel, .int .i64 x.h, .int .i64 x.f, .slice ca x.cs.length cc, .int .i64 x.df] 111)
 rw [szA] at bx
 have xc0 := alw (cQ 0 bx)
 have xc1 := alw (cQ 1 bx)
 have xc2 := alw (cQ 2 bx)
 have xc3 := alw (cQ 3 bx)
 have xc4 := alw (cQ 4 bx)
 have xc5 := alw (cQ 5 bx)
 have xc6 := alw (cQ 6 bx)
 clear bx
 have hexm := hex.2
 unfold maxLen at hcm hexm
 have HEX := Lh hex
 dsimp only [Pg.PV.val]
 clear hq hhs hmd hss hk hex hcs hnm g0 g1 g2 g3 g4 g5 g6 hwd hlb
 by_cases h1 : 4 < x.ex.length
 ·have HR := Lh (hR.trans (Ps.stE_lim (.inl h1)))
  have d1 : decide ((4 : Int) < (x.ex.length : Int)) = true := dTt (by omega)
  clear hR
  go_enter Tryz.func133, Tryz.ntmps133
  go_wp2_with fail
  go_ret2
  exact ⟨ret_two (by rw [HR.out]), grows⟩
 ·have d1 : decide ((4 : Int) < (x.ex.length : Int)) = false := dF (by omega)
  by_cases h2 : 8 < x.cs.length
  ·have HR := Lh (hR.trans (Ps.stE_lim (.inr h2)))
   have d2 : decide ((8 : Int) < (x.cs.length : Int)) = true := dTt (by omega)
   clear hR
   go_enter Tryz.func133, Tryz.ntmps133
   go_wp2_with fail
   go_ret2
   exact ⟨ret_two (by rw [HR.out]), grows⟩
  ·have d2 : decide ((8 : Int) < (x.cs.length : Int)) = false := dF (by omega)
   have HR0 := Lh (hR.trans (Ps.stE_lim' h1 h2))
   clear hR
   go_enter Tryz.func133, Tryz.ntmps133
   go_wp2_with fail
   go_loopw [30] (fun q wr => ∃ i : Nat, i ≤ x.ex.length ∧ q = .int .i64 i ∧ Ext (((W.alloc (.cells (Yq2 s a1 m1 P a2 m2 a3 m3 n3 a4 m4 n4 a5 m5 n5 ab ao m6 ss.length a7 m7 n7 a8 m8) 31))).alloc (.cells #[.string x.nm, .slice ea x.ex.length ec, .bool x.sel, .int .i64 x.h, .int .i64 x.f, .slice ca x.cs.length cc, .int .i64 x.df] 111)) wr ∧ Hid (∀ j, j < i → (decide (0 ≤ x.ex.getD j 0) && decide (x.ex.getD j 0 < P.hs.length)) = true)) (fun q _ => x.ex.length - (intOf q).toNat)
   case atStart => exact ⟨0, Nat.zero_le _, rfl, eR _, Lh (by intro j hj; omega)⟩
   case round =>
    obtain ⟨i, hi, rfl, hx, HZ⟩ := hrel
    have sx := Sm hx
    by_cases hlt : i < x.ex.length
    ·obtain ⟨y, hy⟩ : ∃ y, x.ex[i]? = some y := ⟨_, gE (by omega)⟩
     obtain ⟨eb, eo, rfl, n1⟩ := ns_at HEX.out (by omega)
     have r1 := n1 i y hy
     have HY := Lh hy
     clear n1 hy
     by_cases hy0 : y < 0
     ·have e1 : decide (y < 0) = true := dTt hy0
      have HR : Hid (R = (-1, 8)) := Lh (by rw [HR0.out, Ps.exB_no HY.out (.inl hy0)]; rfl)
      go_wp2_with fail
      go_ret2
      exact ⟨ret_two (by rw [HR.out]), grows⟩
     ·have e1 : decide (y < 0) = false := dF hy0
      by_cases hyn : (P.hs.length : Int) ≤ y
      ·have e2 : decide ((P.hs.length : Int) ≤ y) = true := dTt hyn
       have HR : Hid (R = (-1, 8)) := Lh (by rw [HR0.out, Ps.exB_no HY.out (.inr hyn)]; rfl)
       go_wp2_with fail
       go_ret2
       exact ⟨ret_two (by rw [HR.out]), grows⟩
      ·have e2 : decide ((P.hs.length : Int) ≤ y) = false := dF hyn
       go_wp2_with fail
       go_roundw
       case rel =>
        refine ⟨i + 1, by omega, by go_num, by exact hx, Lh (fun j hj => ?_)⟩
        rcases Nat.lt_or_ge j i with h1 | h1
        ·exact HZ.out j h1
        ·obtain rfl : j = i := by omega
         rw [List.getD_eq_getElem?_getD, HY.out]
         show (decide (0 ≤ y) && decide (y < P.hs.length)) = true
         rw [dTt (by omega), dTt (by omega)]; rfl
       case measure => simp [intOf]; omega
    ·obtain rfl : i = x.ex.length := by omega
     have HYES : Hid (Ps.exB P.hs.length x.ex = true) := Lh (Ps.exB_yes HZ.out)
     cases hsl : x.sel with
     | true =>
      by_cases hw0 : wd = 0
      ·subst hw0
       have HR : Hid (R = (-1, 8)) := Lh (by rw [HR0.out, HYES.out, hsl, HWD.out]; rfl)
       go_wp2_with fail
       refine via (HW.out _ grows) fun w4 xw4 sw4 => ?_
       go_wp2_with fail
       go_ret2
       exact ⟨ret_two (by rw [HR.out]), grows⟩
      ·have w0 : (wd == 0) = false := bF hw0
       have HR : Hid (R = if (Ps.csE wd ss.length k x.cs).2 = 0 then (if lb then (0, 0) else (-1, 14)) else Ps.csE wd ss.length k x.cs) := Lh (by rw [HR0.out, HYES.out, hsl, HWD.out, w0, HLB.out]; rfl)
       go_wp2_with fail
       refine via (HW.out _ grows) fun w4 xw4 sw4 => ?_
       go_wp2_with fail
       go_loopw [67] (fun q wr => ∃ i : Nat, i ≤ x.cs.length ∧ q = .int .i64 i ∧ Ext w4 wr ∧ Hid (∀ j, j < i → Ps.caseE wd ss.length k (x.cs.getD j Ps.c0) = 0)) (fun q _ => x.cs.length - (intOf q).toNat)
       case atStart => exact ⟨0, Nat.zero_le _, rfl, grows, Lh (by intro j hj; omega)⟩
       case round =>
        obtain ⟨i, hi, rfl, hx, HZ⟩ := hrel
        have sx := Sm hx
        by_cases hlt : i < x.cs.length
        ·obtain ⟨⟨c1, c2, c3⟩, hci⟩ : ∃ c, x.cs[i]? = some c := ⟨_, gE (by omega)⟩
         obtain ⟨cb, co, rfl, _, _⟩ := Rows.at HCS.out (by omega)
         obtain ⟨hv, hm, u0, u1, u2⟩ := case_at HCS.out i _ hci rfl
         have t0 := alw u0
         have t1 := alw u1
         have t2 := alw u2
         have HGC := Lh (show x.cs.getD i Ps.c0 = ⟨c1, c2, c3⟩ by rw [List.getD_eq_getElem?_getD, hci]; rfl)
         dsimp only at hv hm t0 t1 t2
         clear u0 u1 u2 hci
         obtain ⟨ce, hce⟩ : ∃ z, z = Ps.caseE wd ss.length k ⟨c1, c2, c3⟩ := ⟨_, rfl⟩
         have HCC : Hid (∀ w, Ext W w → Calls Tryz.prog 167 #[.agg (Yq2 s a1 m1 P a2 m2 a3 m3 n3 a4 m4 n4 a5 m5 n5 ab ao m6 ss.length a7 m7 n7 a8 m8), .int .i64 k, .agg #[.int .u32 c1, .int .u32 c2, .int .i64 c3]] w (Rets w (.int .i64 ce))) := Lh (fun w hx => by have h := ccase_any (HQ.out.ext hx) k x HK.out ⟨c1, c2, c3⟩ hv hm; rw [HWD.out, ← hce] at h; exact h)
         have HE : Hid (Ps.caseE wd ss.length k (x.cs.getD i Ps.c0) = ce) := Lh (by rw [HGC.out, hce])
         have bx := aH wr (.cells #[.int .u32 c1, .int .u32 c2, .int .i64 c3] 190)
         have dc0 := alw (cQ 0 bx)
         have dc1 := alw (cQ 1 bx)
         have dc2 := alw (cQ 2 bx)
         clear bx
         clear hce hv hm HGC
         by_cases hc0 : ce = 0
         ·subst hc0
          go_wp2_with fail
          refine via (HCC.out _ grows) fun w5 xw5 sw5 => ?_
          go_wp2_with fail
          go_roundw
          case rel =>
           refine ⟨i + 1, by omega, by go_num, grows, Lh (fun j hj => ?_)⟩
           rcases Nat.lt_or_ge j i with h1 | h1
           ·exact HZ.out j h1
           ·obtain rfl : j = i := by omega
            exact HE.out
          case measure => simp [intOf]; omega
         ·have z1 : (ce != 0) = true := nT hc0
          have HC0 := Lh hc0
          clear hc0
          go_wp2_with fail
          refine via (HCC.out _ grows) fun w5 xw5 sw5 => ?_
          go_wp2_with fail
          go_ret2
          exact ⟨ret_two (by rw [HR.out, Ps.csE_some hlt HZ.out (by rw [HE.out]; exact HC0.out), HE.out, if_neg HC0.out]), grows⟩
        ·obtain rfl : i = x.cs.length := by omega
         have HN : Hid (R = if lb then (0, 0) else (-1, 14)) := Lh (by rw [HR.out, Ps.csE_none HZ.out, if_pos rfl])
         cases lb with
         | false =>
          go_wp2_with fail
          refine via (HLD.out _ grows) fun w5 xw5 sw5 => ?_
          go_wp2_with fail
          go_ret2
          exact ⟨ret_two (by rw [HN.out]; rfl), grows⟩
         | true =>
          go_wp2_with fail
          refine via (HLD.out _ grows) fun w5 xw5 sw5 => ?_
          go_wp2_with fail
          go_ret2
          exact ⟨ret_two (by rw [HN.out]; rfl), grows⟩
     | false =>
      by_cases hc : 0 < x.cs.length
      ·have e3 : decide ((0 : Int) < (x.cs.length : Int)) = true := dTt (by omega)
       have HR : Hid (R = (-1, 11)) := Lh (by rw [HR0.out, HYES.out, hsl, dTt hc]; rfl)
       go_wp2_with fail
       go_ret2
       exact ⟨ret_two (by rw [HR.out]), grows⟩
      ·have e3 : decide ((0 : Int) < (x.cs.length : Int)) = false := dF (by omega)
       have HR : Hid (R = if (Ps.csE wd ss.length k x.cs).2 = 0 then (if lb then (0, 0) else (-1, 14)) else Ps.csE wd ss.length k x.cs) := Lh (by rw [HR0.out, HYES.out, hsl, HWD.out, dF hc, HLB.out]; rfl)
       go_wp2_with fail
       go_loopw [67] (fun q wr => ∃ i : Nat, i ≤ x.cs.length ∧ q = .int .i64 i ∧ Ext (((W.alloc (.cells (Yq2 s a1 m1 P a2 m2 a3 m3 n3 a4 m4 n4 a5 m5 n5 ab ao m6 ss.length a7 m7 n7 a8 m8) 31))).alloc (.cells #[.string x.nm, .slice ea x.ex.length ec, .bool x.sel, .int .i64 x.h, .int .i64 x.f, .slice ca x.cs.length cc, .int .i64 x.df] 111)) wr ∧ Hid (∀ j, j < i → Ps.caseE wd ss.length k (x.cs.getD j Ps.c0) = 0)) (fun q _ => x.cs.length - (intOf q).toNat)
       case atStart => exact ⟨0, Nat.zero_le _, rfl, grows, Lh (by intro j hj; omega)⟩
       case round =>
        obtain ⟨i, hi, rfl, hx, HZ⟩ := hrel
        have sx := Sm hx
        by_cases hlt : i < x.cs.length
        ·exact absurd hlt (by omega)
        ·obtain rfl : i = x.cs.length := by omega
         have HN : Hid (R = if lb then (0, 0) else (-1, 14)) := Lh (by rw [HR.out, Ps.csE_none HZ.out, if_pos rfl])
         cases lb with
         | false =>
          go_wp2_with fail
          refine via (HLD.out _ grows) fun w5 xw5 sw5 => ?_
          go_wp2_with fail
          go_ret2
          exact ⟨ret_two (by rw [HN.out]; rfl), grows⟩
         | true =>
          go_wp2_with fail
          refine via (HLD.out _ grows) fun w5 xw5 sw5 => ?_
          go_wp2_with fail
          go_ret2
          exact ⟨ret_two (by rw [HN.out]; rfl), grows⟩
open Go.Maps
open Go.WideMaps (keyOf_string_mk)
theorem ext_map {H : Type} {P : Program} {k : TypeId} {R : Value → Option (DataW H × List MemPlace)} {w w' : World} {b n : Nat} {D : DataW H} (h : w.ownsMap P k R b n D) (hx : Ext w w') : w'.ownsMap P k R b n D := by
 obtain ⟨es, clock, hb, F, hs, hD⟩ := h
 exact ⟨es, clock, hx.heap hb, F, hs, hD⟩
theorem lookup_bool {H : Type} {P : Program} {k t e : TypeId} {w : World} {b n : Nat} {D : DataW H} (h : w.ownsMap P k (plainElem P e) b n D) (K : Keyed P k) (ht : P.underlying t = some (.map k e)) (he : P.underlying e = some .bool) (hz : (zeroValue e).run P w = .ok (.bool false) w)
 {key : Value} {kl : Lit} (hkey : keyOf P k key = some kl) : ∃ c, (Instr.lookup t (.map (some b)) key false).run P w = .ok (.bool c) w ∧ D.atKey kl (.lit (.bool false)) = .lit (.bool c) := by
 obtain ⟨v, ps, hrun, hv⟩ := h.lookup K ht hz (plainElem_bool he false) hkey
 unfold plainElem at hv
 rw [he] at hv
 cases v <;> simp at hv
 obtain ⟨h1, h2⟩ := hv
 exact ⟨_, hrun, h1.symm⟩
theorem grown_map {w w' : World} {a : World} {B : Nat} (hx : Ext a w) (h : w.grownBy w' (some B)) (hB : a.heap.size ≤ B) : Ext a w' :=
 Ext.mod hx (S := fun k => some k = some B) (grown_mod h) (fun k hk => by simp only [Option.some.injEq] at hk; omega)
/-- the names of the first k states are in the map at B -/
def NamesM (w : World) (B : Nat) (ss : List Ps.St) (k : Nat) : Prop := ∃ D : DataW Unit, w.ownsMap Tryz.prog 9 (plainElem Tryz.prog 4) B k D ∧ ∀ s : ByteArray, s.size ≤ maxLen → D.atKey (.string s.data.toList) (.lit (.bool false)) = .lit (.bool ((ss.take k).any fun y => Hd.same y.nm s))
theorem str_law : Keyed Tryz.prog 9 := string_keyed Tryz.underlying9
theorem zero_b (w : World) : (zeroValue 4).run Tryz.prog w = .ok (.bool false) w := by kernel_rfl
theorem NamesM.ext {w w' : World} {B k : Nat} {ss : List Ps.St} (h : NamesM w B ss k) (hx : Ext w w') : NamesM w' B ss k := by
 obtain ⟨D, h1, h2⟩ := h; exact ⟨D, ext_map h1 hx, h2⟩
theorem NamesM.look {w : World} {B k : Nat} {ss : List Ps.St} (h : NamesM w B ss k) {s : ByteArray} (hs : s.size ≤ maxLen) : (Instr.lookup 228 (.map (some B)) (.string s) false).run Tryz.prog w = .ok (.bool ((ss.take k).any fun y => Hd.same y.nm s)) w := by
 obtain ⟨D, h1, h2⟩ := h
 obtain ⟨c, hr, hc⟩ := lookup_bool h1 str_law Tryz.underlying228 Tryz.underlying4 (zero_b w) (keyOf_string_mk Tryz.underlying9 hs)
 rw [h2 s hs] at hc
 simp only [DataW.lit.injEq, Lit.bool.injEq] at hc
 rw [hr, hc]
theorem NamesM.put {w' : World} {B k : Nat} {ss : List Ps.St} {D : DataW Unit} {x : Ps.St} (hx : ss[k]? = some x) (hn : x.nm.size ≤ maxLen) (h2 : ∀ s : ByteArray, s.size ≤ maxLen → D.atKey (.string s.data.toList) (.lit (.bool false)) = .lit (.bool ((ss.take k).any fun y => Hd.same y.nm s))) (hD : IsMap D)
 (h : w'.ownsMap Tryz.prog 9 (plainElem Tryz.prog 4) B (k + 1) (D.put (.string x.nm.data.toList) (.lit (.bool true)))) : NamesM w' B ss (k + 1) := by
 refine ⟨_, h, fun s hs => ?_⟩
 have ht : ss.take (k + 1) = ss.take k ++ [x] := by rw [List.take_add_one, hx]; rfl
 rw [ht, List.any_append]
 by_cases e : s = x.nm
 ·subst e
  rw [atKey_put_same hD (str_law.key (keyOf_string_mk Tryz.underlying9 hn))]
  simp [Hd.same_self]
 ·have hne : (Lit.string s.data.toList) ≠ .string x.nm.data.toList := fun h => e (by
   simp only [Lit.string.injEq] at h
   cases s; cases hh : x.nm
   rw [hh] at h
   congr 1
   exact Array.ext' h)
  rw [atKey_put_other hne, h2 s hs]
  have : Hd.same x.nm s = false := by rw [← Bool.not_eq_true, Hd.same_iff]; exact fun h => e h.symm
  simp [this]
theorem NamesM.new (w : World) (ss : List Ps.St) : NamesM (w.alloc (.map #[] 0)) w.heap.size ss 0 :=
 ⟨.map [], World.ownsMap_made _ _ _ _, fun s _ => by simp; rfl⟩
theorem ret_three {R : Int × Int × Int} {a b c : Int} (h : R = (a, b, c)) : Ending.returned (.tuple #[.int .i64 a, .int .i64 b, .int .i64 c]) = .returned (.tuple #[.int .i64 R.1, .int .i64 R.2.1, .int .i64 R.2.2]) := by rw [h]
namespace Ps
theorem chk_bad {P : Pg.Prog} {ss : List St} {k : Nat} (h1 : ss.length ≠ 0) (h2 : ¬ 12 < ss.length) (hk : k < ss.length) (hz : ∀ j, j < k → (allE P ss j).2 = 0) (hp : (allE P ss k).2 ≠ 0) : chk P ss = ((k : Int), (allE P ss k).1, (allE P ss k).2) := by
 unfold chk; rw [if_neg h1, if_neg h2, fb_some hk hz hp]
theorem chk_good {P : Pg.Prog} {ss : List St} (h1 : ss.length ≠ 0) (h2 : ¬ 12 < ss.length) (hz : ∀ j, j < ss.length → (allE P ss j).2 = 0) : chk P ss = (0, 0, 0) := by
 unfold chk; rw [if_neg h1, if_neg h2, fb_none hz]
theorem allE_name {P : Pg.Prog} {ss : List St} {k : Nat} {x : St} (hx : ss[k]? = some x) (h : Id.ok x.nm = false) : allE P ss k = (-1, 6) := by
 unfold allE; rw [List.getD_eq_getElem?_getD, hx]; show (if (!Id.ok x.nm) = true then _ else _) = _; rw [h]; rfl
theorem allE_dup {P : Pg.Prog} {ss : List St} {k : Nat} {x : St} (hx : ss[k]? = some x) (h : Id.ok x.nm = true) (hd : ((ss.take k).any fun y => Hd.same y.nm x.nm) = true) : allE P ss k = (-1, 7) := by
 unfold allE dup; rw [List.getD_eq_getElem?_getD, hx]; show (if (!Id.ok x.nm) = true then _ else if ((ss.take k).any fun y => Hd.same y.nm x.nm) = true then _ else _) = _; rw [h, hd]; rfl
theorem allE_st {P : Pg.Prog} {ss : List St} {k : Nat} {x : St} (hx : ss[k]? = some x) (h : Id.ok x.nm = true) (hd : ((ss.take k).any fun y => Hd.same y.nm x.nm) = false) : allE P ss k = stE P ss.length k x := by
 unfold allE dup; rw [List.getD_eq_getElem?_getD, hx]; show (if (!Id.ok x.nm) = true then _ else if ((ss.take k).any fun y => Hd.same y.nm x.nm) = true then _ else stE P ss.length k x) = _; rw [h, hd]; rfl
end Ps
theorem pcheck_any {W : World} {p : Pg.PV} {P : Pg.Prog} {ss : List Ps.St} (hq : Ps.IsQ W p P ss) : Calls Tryz.prog 95 #[p.val] W (Rets W (.tuple #[.int .i64 (Ps.chk P ss).1, .int .i64 (Ps.chk P ss).2.1, .int .i64 (Ps.chk P ss).2.2])) := by
 obtain ⟨s, a1, a2, a3, a4, a5, a6, a7, a8, m1, m2, n3, m3, n4, m4, n5, m5, n6, m6, n7, m7, m8, hf⟩ := hq.1.form
 obtain ⟨rfl, hhs, hmd, _, hl1, hl2, _⟩ := hf
 have hss := hq.2
 dsimp only at hss
 obtain ⟨a6', m6', e6, hl6, hc6⟩ := hss.slice
 simp only [Value.slice.injEq] at e6
 obtain ⟨rfl, rfl, rfl⟩ := e6
 unfold maxLen at hc6
 obtain ⟨R, hR⟩ : ∃ z, z = Ps.chk P ss := ⟨_, rfl⟩
 rw [← hR]
 have HQ := Lh hq
 have HSS := Lh hss
 have bx := aH W (.cells #[.string s, .slice a1 P.hs.length m1, .slice a2 P.md.length m2, .slice a3 n3 m3, .slice a4 n4 m4, .slice a5 n5 m5, .slice a6 ss.length m6, .slice a7 n7 m7, .slice a8 P.dp.length m8] 31)
 have pc0 := alw (cQ 0 bx)
 have pc1 := alw (cQ 1 bx)
 have pc2 := alw (cQ 2 bx)
 have pc3 := alw (cQ 3 bx)
 have pc4 := alw (cQ 4 bx)
 have pc5 := alw (cQ 5 bx)
 have pc6 := alw (cQ 6 bx)
 have pc7 := alw (cQ 7 bx)
 have pc8 := alw (cQ 8 bx)
 clear bx
 dsimp only [Pg.PV.val]
 clear hq hhs hmd hss
 by_cases h0 : ss.length = 0
 ·have HR : Hid (R = (-1, -1, 8)) := Lh (by rw [hR]; unfold Ps.chk; rw [if_pos h0])
  have e0 : ((ss.length : Int) == 0) = true := bT (by omega)
  clear hR
  go_enter Tryz.func95, Tryz.ntmps95
  go_wp2_with fail
  go_ret3
  exact ⟨ret_three (by rw [HR.out]), grows⟩
 ·have e0 : ((ss.length : Int) == 0) = false := bF (by omega)
  by_cases h12 : 12 < ss.length
  ·have HR : Hid (R = (-1, -1, 12)) := Lh (by rw [hR]; unfold Ps.chk; rw [if_neg h0, if_pos h12])
   have e1 : decide ((12 : Int) < (ss.length : Int)) = true := dTt (by omega)
   clear hR
   go_enter Tryz.func95, Tryz.ntmps95
   go_wp2_with fail
   go_ret3
   exact ⟨ret_three (by rw [HR.out]), grows⟩
  ·have e1 : decide ((12 : Int) < (ss.length : Int)) = false := dF (by omega)
   have HR := Lh hR
   have HH0 := Lh h0
   have HH12 := Lh h12
   have hmm := @run_makeMap Tryz.prog
   clear hR h0
   go_enter Tryz.func95, Tryz.ntmps95
   go_wp2_with fail
   go_loopw [24] (fun q wr => ∃ i : Nat, i ≤ ss.length ∧ q = .int .i64 i ∧ Hid (NamesM wr (W.heap.size + 1) ss i ∧ Ext (W.alloc (.cells #[.string s, .slice a1 P.hs.length m1, .slice a2 P.md.length m2, .slice a3 n3 m3, .slice a4 n4 m4, .slice a5 n5 m5, .slice a6 ss.length m6, .slice a7 n7 m7, .slice a8 P.dp.length m8] 31)) wr ∧ ∀ j, j < i → (Ps.allE P ss j).2 = 0)) (fun q _ => ss.length - (intOf q).toNat)
   case atStart => exact ⟨0, Nat.zero_le _, rfl, Lh ⟨by have h := NamesM.new (W.alloc (.cells #[.string s, .slice a1 P.hs.length m1, .slice a2 P.md.length m2, .slice a3 n3 m3, .slice a4 n4 m4, .slice a5 n5 m5, .slice a6 ss.length m6, .slice a7 n7 m7, .slice a8 P.dp.length m8] 31)) ss; rw [szA] at h; exact h, (eR _).alloc _, by intro j hj; omega⟩⟩
   case round =>
    clear hmm
    obtain ⟨i, hi, rfl, HI⟩ := hrel
    obtain ⟨hnm, hx, hz⟩ := HI.out
    have sx := Sm hx
    have HZ := Lh hz
    have HN := Lh hnm
    clear hx hz HI hnm
    by_cases hlt : i < ss.length
    ·obtain ⟨x, hk⟩ : ∃ x, ss[i]? = some x := ⟨_, gE (by omega)⟩
     obtain ⟨ab, ao, rfl, _, _⟩ := HSS.out.at (by omega)
     obtain ⟨ea, ec, ca, cc, hnm, hex, hcs, hcl, hcm, g0, g1, g2, g3, g4, g5, g6⟩ := st_at HSS.out i x hk rfl
     have HK := Lh hk
     have HM := Lh hnm
     have y0 := alw g0
     have y1 := alw g1
     have y2 := alw g2
     have y3 := alw g3
     have y4 := alw g4
     have y5 := alw g5
     have y6 := alw g6
     have bx := aH wr (.cells #[.string x.nm, .slice ea x.ex.length ec, .bool x.sel, .int .i64 x.h, .int .i64 x.f, .slice ca x.cs.length cc, .int .i64 x.df] 111)
     have dc0 := alw (cQ 0 bx)
     have dc1 := alw (cQ 1 bx)
     have dc2 := alw (cQ 2 bx)
     have dc3 := alw (cQ 3 bx)
     have dc4 := alw (cQ 4 bx)
     have dc5 := alw (cQ 5 bx)
     have dc6 := alw (cQ 6 bx)
     clear bx
     obtain ⟨id, hid⟩ : ∃ z, z = Id.ok x.nm := ⟨_, rfl⟩
     have HID : Hid (∀ w, Calls Tryz.prog 124 #[.string x.nm] w (Rets w (.bool id))) := Lh (fun w => by have h := ident_any x.nm w hnm; rw [← hid] at h; exact Rets.of_eq h)
     have HI2 := Lh hid
     clear hk hex hcs hcl hcm g0 g1 g2 g3 g4 g5 g6 hid hnm
     cases id with
     | false =>
      have HE : Hid (Ps.allE P ss i = (-1, 6)) := Lh (Ps.allE_name HK.out HI2.out.symm)
      go_wp2_with fail
      refine via (HID.out _) fun w5 xw5 sw5 => ?_
      go_wp2_with fail
      go_ret3
      exact ⟨ret_three (by rw [HR.out, Ps.chk_bad HH0.out HH12.out hlt HZ.out (by rw [HE.out]; decide), HE.out]), grows⟩
     | true =>
      obtain ⟨dp, hdp⟩ : ∃ z, z = ((ss.take i).any fun y => Hd.same y.nm x.nm) := ⟨_, rfl⟩
      have HDP := Lh hdp
      clear hdp
      go_wp2_with fail
      refine via (HID.out _) fun w5 x5 s5 => ?_
      have hlook := ((HN.out.ext (grows (a := wr) (b := w5))).look HM.out)
      rw [← HDP.out] at hlook
      cases dp with
      | true =>
       have HE : Hid (Ps.allE P ss i = (-1, 7)) := Lh (Ps.allE_dup HK.out HI2.out.symm HDP.out.symm)
       go_wp2_with fail
       go_ret3
       exact ⟨ret_three (by rw [HR.out, Ps.chk_bad HH0.out HH12.out hlt HZ.out (by rw [HE.out]; decide), HE.out]), grows⟩
      | false =>
       have HE : Hid (Ps.allE P ss i = Ps.stE P ss.length i x) := Lh (Ps.allE_st HK.out HI2.out.symm HDP.out.symm)
       obtain ⟨⟨S1, S2⟩, hS⟩ : ∃ z, z = Ps.stE P ss.length i x := ⟨_, rfl⟩
       have HC : Hid (∀ w, Ext W w → Calls Tryz.prog 133 #[.agg (Yq2 s a1 m1 P a2 m2 a3 m3 n3 a4 m4 n4 a5 m5 n5 ab ao m6 ss.length a7 m7 n7 a8 m8), .int .i64 i] w (Rets w (.tuple #[.int .i64 S1, .int .i64 S2]))) := Lh (fun w hx => by have h := cstate_any (HQ.out.ext hx) i x HK.out; rw [← hS] at h; exact h)
       have HSX := Lh hS
       obtain ⟨D, hD⟩ := HN.out.ext (grows (a := wr) (b := w5))
       have HD2 := Lh hD.2
       have hown := hD.1
       have hkey : keyOf Tryz.prog 9 (.string x.nm) = some (.string x.nm.data.toList) := keyOf_string_mk Tryz.underlying9 HM.out
       have HDM : Hid (IsMap D) := Lh (by obtain ⟨es, clock, _, _, _, e⟩ := hown; exact ⟨_, e⟩)
       have HKY := Lh hkey
       have HOW := Lh hown
       clear hS hD hown hkey
       go_wp2_with (first | (at_mapUpdate; refine wpList_mapUpdate_own _ rfl _ _ _ 228 rfl 9 4 str_law Tryz.underlying228 _ (W.heap.size + 1) i _ rfl HOW.out (by unfold maxLen; omega) _ _ _ rfl rfl HKY.out _ [] (plainElem_bool Tryz.underlying4 true) ?_) | fail)
       intro w6 hown6 hg6
       have hx6 : Ext (W.alloc (.cells (Yq2 s a1 m1 P a2 m2 a3 m3 n3 a4 m4 n4 a5 m5 n5 ab ao m6 ss.length a7 m7 n7 a8 m8) 31)) w6 := grown_map (grows (a := (W.alloc (.cells (Yq2 s a1 m1 P a2 m2 a3 m3 n3 a4 m4 n4 a5 m5 n5 ab ao m6 ss.length a7 m7 n7 a8 m8) 31))) (b := w5)) hg6 (by rw [szA]; omega)
       have s6 : Step (W.alloc (.cells (Yq2 s a1 m1 P a2 m2 a3 m3 n3 a4 m4 n4 a5 m5 n5 ab ao m6 ss.length a7 m7 n7 a8 m8) 31)) w6 := Sm hx6
       have HN6 : Hid (NamesM w6 (W.heap.size + 1) ss (i + 1)) := Lh (NamesM.put HK.out HM.out HD2.out HDM.out hown6)
       clear hown6 hg6 hx6 hlook
       by_cases hs0 : S2 = 0
       ·subst hs0
        have HE0 : Hid ((Ps.allE P ss i).2 = 0) := Lh (by rw [HE.out, ← HSX.out])
        go_wp2_with fail
        refine via (HC.out _ grows) fun w7 xw7 sw7 => ?_
        go_wp2_with fail
        go_roundw
        case rel =>
         refine ⟨i + 1, by omega, by go_num, Lh ⟨HN6.out.ext grows, grows, fun j hj => ?_⟩⟩
         rcases Nat.lt_or_ge j i with h1 | h1
         ·exact HZ.out j h1
         ·obtain rfl : j = i := by omega
          exact HE0.out
        case measure => simp [intOf]; omega
       ·have z1 : (S2 != 0) = true := nT hs0
        have HS0 := Lh hs0
        clear hs0
        go_wp2_with fail
        refine via (HC.out _ grows) fun w7 xw7 sw7 => ?_
        go_wp2_with fail
        go_ret3
        exact ⟨ret_three (by rw [HR.out, Ps.chk_bad HH0.out HH12.out hlt HZ.out (by rw [HE.out, ← HSX.out]; exact HS0.out), HE.out, ← HSX.out]), grows⟩
    ·obtain rfl : i = ss.length := by omega
     go_wp2_with fail
     go_ret3
     exact ⟨ret_three (by rw [HR.out, Ps.chk_good HH0.out HH12.out HZ.out]), grows⟩
namespace Dp
/-- the k-th of the list is no header (8), or stands in the list before (7) -/
def bad (P : Pg.Prog) (k : Nat) : Int := if P.dp.getD k 0 < 0 ∨ (P.hs.length : Int) ≤ P.dp.getD k 0 then 8 else if (P.dp.take k).any (· == P.dp.getD k 0) then 7 else 0
def chk (P : Pg.Prog) : Int × Int :=
 if 8 < P.dp.length then (-1, 12) else match (List.range P.dp.length).find? (fun k => bad P k != 0) with
  | some k => ((k : Int), bad P k)
  | none => (0, 0)
theorem chk_many {P : Pg.Prog} (h : 8 < P.dp.length) : chk P = (-1, 12) := by unfold chk; rw [if_pos h]
theorem chk_some {P : Pg.Prog} {k : Nat} {x : Int} (h : ¬ 8 < P.dp.length) (hk : k < P.dp.length) (h0 : ∀ j, j < k → bad P j = 0) (hb : bad P k = x) (hx : x ≠ 0) : chk P = ((k : Int), x) := by
 have hf : (List.range P.dp.length).find? (fun k => bad P k != 0) = some k := by
  rw [List.find?_range_eq_some]
  refine ⟨by simp [hb, hx], List.mem_range.2 hk, fun j hj => by simp [h0 j hj]⟩
 unfold chk; rw [if_neg h, hf]; simp [hb]
theorem chk_none {P : Pg.Prog} (h : ¬ 8 < P.dp.length) (h0 : ∀ j, j < P.dp.length → bad P j = 0) : chk P = (0, 0) := by
 have hf : (List.range P.dp.length).find? (fun k => bad P k != 0) = none := by
  rw [List.find?_range_eq_none]
  intro j hj; simp [h0 j hj]
 unfold chk; rw [if_neg h, hf]
theorem bad_idx {P : Pg.Prog} {k : Nat} {x : Int} (hk : P.dp[k]? = some x) (h : x < 0 ∨ (P.hs.length : Int) ≤ x) : bad P k = 8 := by
 unfold bad; rw [List.getD_eq_getElem?_getD, hk]; exact if_pos h
theorem bad_dup {P : Pg.Prog} {k : Nat} {x : Int} (hk : P.dp[k]? = some x) (h0 : 0 ≤ x) (h1 : x < P.hs.length) (h : (P.dp.take k).any (· == x) = true) : bad P k = 7 := by
 unfold bad; rw [List.getD_eq_getElem?_getD, hk]
 rw [if_neg (by simp; omega), if_pos (by simpa using h)]
theorem bad_no {P : Pg.Prog} {k : Nat} {x : Int} (hk : P.dp[k]? = some x) (h0 : 0 ≤ x) (h1 : x < P.hs.length) (h : (P.dp.take k).any (· == x) = false) : bad P k = 0 := by
 unfold bad; rw [List.getD_eq_getElem?_getD, hk]
 rw [if_neg (by simp; omega)]
 show (if (P.dp.take k).any (· == x) = true then (7 : Int) else 0) = 0
 rw [h]; rfl
theorem any_take_no {l : List Int} {k : Nat} {x : Int} (h : ∀ j, j < k → (l.getD j 0 == x) = false) (hk : k ≤ l.length) : (l.take k).any (· == x) = false := by
 rw [← Bool.not_eq_true, List.any_eq_true]
 rintro ⟨y, hy, he⟩
 obtain ⟨j, hj, rfl⟩ := List.mem_iff_getElem.1 hy
 have hjk : j < k := by simp at hj; omega
 have := h j hjk
 rw [List.getD_eq_getElem?_getD, gE (by omega)] at this
 simp at he this
 exact this he
theorem any_take_yes {l : List Int} {k j : Nat} {x : Int} (h : (l.getD j 0 == x) = true) (hj : j < k) (hk : k ≤ l.length) : (l.take k).any (· == x) = true := by
 rw [List.any_eq_true]
 refine ⟨l[j]'(by omega), ?_, ?_⟩
 ·exact List.mem_take_iff_getElem.2 ⟨j, by omega, rfl⟩
 ·rw [List.getD_eq_getElem?_getD, gE (by omega)] at h
  simpa using h
end Dp
/-- the front of a list -/
theorem ns_take {k : IntKind} {w : World} {oa : Option Addr} {n c j : Nat} {l : List Int} (h : Ns k w (.slice oa n c) l) (hj : j ≤ l.length) (hl : 0 < l.length) : Ns k w (.slice oa j c) (l.take j) := by
 obtain ⟨⟨h1, h2, h3⟩, h4⟩ := h
 have hlen : (l.take j).length = j := by rw [List.length_take]; omega
 refine ⟨⟨by simp, fun u hu => h2 u ?_, ?_⟩, by omega⟩
 ·rw [List.map_take] at hu; exact List.mem_of_mem_take hu
 ·rcases h3 with ⟨_, h0⟩ | ⟨ad, c', he, hc⟩
  ·omega
  ·simp only [Value.slice.injEq] at he
   obtain ⟨rfl, _, rfl⟩ := he
   refine .inr ⟨ad, c, by rw [hlen], fun i u hi => hc i u ?_⟩
   rw [List.map_take, List.getElem?_take] at hi
   split at hi
   ·exact hi
   ·cases hi
theorem indexI_any {W : World} {v : Value} {l : List Int} (x : Int) (h : Ns .i64 W v l) :
 Calls Tryz.prog 170 #[v, .int .i64 x] W fun e W' => (∃ r : Int, e = .returned (.int .i64 r) ∧ (decide (0 ≤ r) = l.any (· == x))) ∧ W = W' := by
 obtain ⟨oa, c, rfl⟩ := ns_slice h
 have hm := h.2
 unfold maxLen at hm
 have H := Lh h
 clear h
 go_enter Tryz.func170, Tryz.ntmps170
 go_wp2_with fail
 go_loop [8] (fun i => ∃ k : Nat, k ≤ l.length ∧ i = .int .i64 k ∧ Hid (∀ j, j < k → (l.getD j 0 == x) = false)) (fun i => l.length - (intOf i).toNat)
 case atStart => exact ⟨0, Nat.zero_le _, rfl, Lh (by intro j hj; omega)⟩
 case round =>
  obtain ⟨k, hk, rfl, HZ⟩ := hrel
  by_cases hlt : k < l.length
  ·obtain ⟨y, hy⟩ : ∃ x, l[k]? = some x := ⟨_, gE hlt⟩
   obtain ⟨b, o, rfl, hc⟩ := ns_at H.out (by omega)
   have f1 := hc k y hy
   have hg : l.getD k 0 = y := by rw [List.getD_eq_getElem?_getD, hy]; rfl
   have HG := Lh hg
   clear hc hy hg
   by_cases h0 : x = y
   ·have h0b : (x == y) = true := by simp [h0]
    have H0 := Lh h0
    clear h0
    go_wp2_with fail
    go_ret
    refine ⟨⟨_, rfl, ?_⟩, rfl⟩
    have hz : l.any (· == x) = true := by
     have := Dp.any_take_yes (l := l) (k := l.length) (j := k) (x := x) (by rw [HG.out, H0.out]; simp) hlt (Nat.le_refl _)
     rwa [List.take_length] at this
    rw [hz]; simp
   ·have h0b : (x == y) = false := by simp [h0]
    have H0 := Lh h0
    clear h0
    go_wp2_with fail
    go_round
    case rel =>
     refine ⟨k + 1, by omega, by go_num, Lh (fun j hj => ?_)⟩
     rcases Nat.lt_or_ge j k with h1 | h1
     ·exact HZ.out j h1
     ·obtain rfl : j = k := by omega
      rw [HG.out]; simpa using fun h => H0.out h.symm
    case measure => simp [intOf]; omega
  ·obtain rfl : k = l.length := by omega
   go_wp2_with fail
   go_ret
   refine ⟨⟨_, rfl, ?_⟩, rfl⟩
   have hz : l.any (· == x) = false := by
    have := Dp.any_take_no (l := l) (k := l.length) (x := x) HZ.out (Nat.le_refl _)
    rwa [List.take_length] at this
   rw [hz]; decide
theorem containsI_any {W : World} {v : Value} {l : List Int} (x : Int) (h : Ns .i64 W v l) :
 Calls Tryz.prog 140 #[v, .int .i64 x] W fun e W' => e = .returned (.bool (l.any (· == x))) ∧ W = W' := by
 obtain ⟨oa, c, rfl⟩ := ns_slice h
 have H := Lh h
 clear h
 go_enter Tryz.func140, Tryz.ntmps140
 go_wp2_with fail
 refine (indexI_any x H.out).mono ?_
 rintro e w1 ⟨⟨r, rfl, hr⟩, rfl⟩
 have HR := Lh hr
 clear hr
 go_wp2_with fail
 go_ret
 exact ⟨ret_bool HR.out, rfl⟩
/-- the list of the deparser has the room that it says -/
def Pg.CapP (p : Pg.PV) : Prop := ∃ a n c, p.c8 = .slice a n c ∧ n ≤ c ∧ c ≤ 9223372036854775807
def Dp.chkV (P : Pg.Prog) : Value := .tuple #[.int .i64 (Dp.chk P).1, .int .i64 (Dp.chk P).2]
theorem Dp.chkV_of {P : Pg.Prog} {x y : Int} (h : Dp.chk P = (x, y)) : Dp.chkV P = .tuple #[.int .i64 x, .int .i64 y] := by unfold Dp.chkV; rw [h]
theorem dcheck_any {W : World} {p : Pg.PV} {P : Pg.Prog} (hp : Pg.IsP W p P) (hc : Pg.CapP p) :
 Calls Tryz.prog 97 #[p.val] W (Rets W (Dp.chkV P)) := by
 have HP := Lh hp
 obtain ⟨s, a1, a2, a3, a4, a5, a6, a7, a8, m1, m2, n3, m3, n4, m4, n5, m5, n6, m6, n7, m7, m8, hf⟩ := hp.form
 obtain ⟨rfl, hhs, hmd, hdp, hl1, hl2, hl8⟩ := hf
 obtain ⟨ca, cn, cc, hce, hc1, hc2⟩ := hc
 simp only [Value.slice.injEq] at hce
 obtain ⟨rfl, rfl, rfl⟩ := hce
 dsimp only [Pg.PV.val]
 have bb := aH W (.cells (Yq24 s a1 m1 P a2 m2 a3 m3 n3 a4 m4 n4 a5 m5 n5 a6 m6 n6 a7 m7 n7 a8 m8) 31)
 have k1 := alw (cQ 1 bb)
 have k8 := alw (cQ 8 bb)
 have HDP := Lh hdp
 clear bb hp hhs hmd hdp
 by_cases h8 : P.dp.length ≤ 8
 ·have H8 : Hid (¬ 8 < P.dp.length) := Lh (by omega)
  go_enter Tryz.func97, Tryz.ntmps97
  go_wp2_with fail
  go_loopw [13] (fun i wr => ∃ k : Nat, k ≤ P.dp.length ∧ i = .int .i64 k ∧ wr = (W.alloc (.cells (Yq24 s a1 m1 P a2 m2 a3 m3 n3 a4 m4 n4 a5 m5 n5 a6 m6 n6 a7 m7 n7 a8 m8) 31)) ∧ Hid (∀ j, j < k → Dp.bad P j = 0)) (fun i _ => P.dp.length - (intOf i).toNat)
  case atStart => exact ⟨0, Nat.zero_le _, rfl, rfl, Lh (by intro j hj; omega)⟩
  case round =>
   obtain ⟨k, hk, rfl, rfl, HZ⟩ := hrel
   by_cases hlt : k < P.dp.length
   ·obtain ⟨x, hxk⟩ : ∃ x, P.dp[k]? = some x := ⟨_, gE hlt⟩
    obtain ⟨b, o, hoa, hec⟩ := ns_at HDP.out (by omega)
    subst hoa
    have e0 := hec k x hxk
    have HT : Hid (Ns .i64 W (.slice (some ⟨b, o, none⟩) k m8) (P.dp.take k)) := Lh (ns_take HDP.out hk (by omega))
    have hkc : k ≤ m8 := by omega
    by_cases x0 : x < 0
    ·have HR := Lh (Dp.chkV_of (Dp.chk_some H8.out hlt HZ.out (Dp.bad_idx hxk (.inl x0)) (by decide)))
     clear hxk hec
     go_wp2_with fail
     go_ret2
     exact ⟨by rw [HR.out]; rfl, grows⟩
    ·by_cases x1 : x < P.hs.length
     ·cases hd : (P.dp.take k).any (· == x)
      ·have HB := Lh (Dp.bad_no hxk (by omega) x1 hd)
       have HD := Lh hd
       clear hxk hec hd
       go_wp2_with (go_at_call 140; refine (containsI_any x (Ns.ext HT.out grows)).mono ?_; rintro e w1 ⟨rfl, rfl⟩; rw [HD.out])
       go_roundw
       case rel =>
        refine ⟨k + 1, by omega, by go_num, (by first | exact rfl | trivial), Lh (fun j hj => ?_)⟩
        rcases Nat.lt_or_ge j k with h1 | h1
        ·exact HZ.out j h1
        ·obtain rfl : j = k := by omega
         exact HB.out
       case measure => simp [intOf]; omega
      ·have HR := Lh (Dp.chkV_of (Dp.chk_some H8.out hlt HZ.out (Dp.bad_dup hxk (by omega) x1 hd) (by decide)))
       have HD := Lh hd
       clear hxk hec hd
       go_wp2_with (go_at_call 140; refine (containsI_any x (Ns.ext HT.out grows)).mono ?_; rintro e w1 ⟨rfl, rfl⟩; rw [HD.out])
       go_ret2
       exact ⟨by rw [HR.out]; rfl, grows⟩
     ·have x2 : (P.hs.length : Int) ≤ x := by omega
      have dx2 : decide ((P.hs.length : Int) ≤ x) = true := by simp; omega
      have HR := Lh (Dp.chkV_of (Dp.chk_some H8.out hlt HZ.out (Dp.bad_idx hxk (.inr x2)) (by decide)))
      clear hxk hec
      go_wp2_with fail
      go_ret2
      exact ⟨by rw [HR.out]; rfl, grows⟩
   ·obtain rfl : k = P.dp.length := by omega
    have HR := Lh (Dp.chkV_of (Dp.chk_none H8.out HZ.out))
    go_wp2_with fail
    go_ret2
    exact ⟨by rw [HR.out]; rfl, grows⟩
 ·have HR := Lh (Dp.chkV_of (P := P) (Dp.chk_many (by omega)))
  go_enter Tryz.func97, Tryz.ntmps97
  go_wp2_with fail
  go_ret2
  exact ⟨by rw [HR.out]; rfl, grows⟩
namespace Rg
structure Reg where
 nm : ByteArray
 w : Int
 s : Int
def B64 (x : Int) : Prop := -9223372036854775808 ≤ x ∧ x ≤ 9223372036854775807
/-- a register: the cells that hold it -/
def RegR (_ : World) (cs : List Value) (r : Reg) : Prop := cs = [.string r.nm, .int .i64 r.w, .int .i64 r.s] ∧ r.nm.size ≤ maxLen ∧ B64 r.w ∧ B64 r.s
theorem RegR.ext {w w' : World} {cs : List Value} {r : Reg} (h : RegR w cs r) (_ : Ext w w') : RegR w' cs r := h
def z : Reg := ⟨⟨#[]⟩, 0, 0⟩
def szB (r : Reg) : Bool := decide (1 ≤ r.s) && decide (r.s ≤ 64)
def chk (r : Reg) : Int := if Id.ok r.nm then (if Bv.ok r.w then (if szB r then 0 else 9) else 10) else 6
theorem mask_zero {w : Int} : Bv.mask w = 0 ↔ Bv.ok w = false := by
 unfold Bv.mask
 cases h : Bv.ok w
 ·simp
 ·have := Bv.ok_iff.1 h
  have h2 : (2 : Int) ^ 1 ≤ 2 ^ w.toNat := by exact_mod_cast Nat.pow_le_pow_right (by decide : 0 < 2) (show 1 ≤ w.toNat by omega)
  simp only [if_true, Bv.pw]
  constructor
  ·intro h3; omega
  ·intro h3; cases h3
end Rg
theorem regs_at {w : World} {b o n c : Nat} {rs : List Rg.Reg} {oa : Option Addr} (h : Rows w 3 Rg.RegR (.slice oa n c) rs) (k : Nat) (r : Rg.Reg) (hk : rs[k]? = some r) (hoa : oa = some ⟨b, o, none⟩) :
 (∀ w' [Grows w w'], w'.cell? ⟨b, o + k * 3, none⟩ = some (.string r.nm)) ∧ (∀ w' [Grows w w'], w'.cell? ⟨b, o + k * 3 + 1, none⟩ = some (.int .i64 r.w)) ∧ (∀ w' [Grows w w'], w'.cell? ⟨b, o + k * 3 + 2, none⟩ = some (.int .i64 r.s)) ∧ r.nm.size ≤ maxLen ∧ Rg.B64 r.w ∧ Rg.B64 r.s := by
 have hlt := (List.getElem?_eq_some_iff.1 hk).1
 obtain ⟨b', o', hb, hn, hc⟩ := Rows.at h (by omega)
 rw [hb] at hoa
 simp only [Option.some.injEq, Addr.mk.injEq, and_true] at hoa
 obtain ⟨rfl, rfl⟩ := hoa
 obtain ⟨cs, _, ⟨rfl, h1, h2, h3⟩, hcs⟩ := hc k _ hk
 exact ⟨alw (hcs 0 _ rfl), alw (hcs 1 _ rfl), alw (hcs 2 _ rfl), h1, h2, h3⟩
theorem sized_any (r : Rg.Reg) (W : World) : Calls Tryz.prog 104 #[.agg #[.string r.nm, .int .i64 r.w, .int .i64 r.s]] W (Rets W (.bool (Rg.szB r))) := by
 by_cases h1 : 1 ≤ r.s <;> by_cases h2 : r.s ≤ 64 <;> first | omega | skip
 all_goals
  have HR := Lh (show Rg.szB r = (decide (1 ≤ r.s) && decide (r.s ≤ 64)) from rfl)
  go_enter Tryz.func104, Tryz.ntmps104
  go_wp2_with fail
  go_ret
  exact ⟨ret_bool (by rw [HR.out]; simp [h1, h2]), grows⟩
theorem rcheck_any (r : Rg.Reg) (hn : r.nm.size ≤ maxLen) (W : World) : Calls Tryz.prog 88 #[.agg #[.string r.nm, .int .i64 r.w, .int .i64 r.s]] W (Rets W (.int .i64 (Rg.chk r))) := by
 have HN := Lh hn
 clear hn
 have bb := aH W (.cells #[.string r.nm, .int .i64 r.w, .int .i64 r.s] 98)
 have k0 := alw (cQ 0 bb)
 have k1 := alw (cQ 1 bb)
 have k2 := alw (cQ 2 bb)
 clear bb
 cases h1 : Id.ok r.nm
 ·have HR := Lh (show Rg.chk r = 6 by unfold Rg.chk; rw [h1]; rfl)
  go_enter Tryz.func88, Tryz.ntmps88
  go_wp2_with (go_at_call 124; refine (ident_any _ _ HN.out).mono ?_; rintro e w1 ⟨rfl, rfl⟩; rw [h1])
  go_ret
  exact ⟨ret_int (by rw [HR.out]), grows⟩
 ·cases h2 : Bv.ok r.w
  ·have HR := Lh (show Rg.chk r = 10 by unfold Rg.chk; rw [h1, h2]; rfl)
   have hz := Rg.mask_zero.2 h2
   go_enter Tryz.func88, Tryz.ntmps88
   go_wp2_with (first | (go_at_call 124; refine (ident_any _ _ HN.out).mono ?_; rintro e w1 ⟨rfl, rfl⟩; rw [h1]) | (go_at_call 128; refine (mask_any _ _).mono ?_; rintro e w2 ⟨rfl, x2⟩; rw [hz]; have s2 := Sm x2))
   go_ret
   exact ⟨ret_int (by rw [HR.out]), grows⟩
  ·have hz : ¬ Bv.mask r.w = 0 := by rw [Rg.mask_zero, h2]; decide
   obtain ⟨y, hy⟩ : ∃ y, y = Bv.mask r.w := ⟨_, rfl⟩
   have HY := Lh hy
   rw [← hy] at hz
   clear hy
   cases h3 : Rg.szB r
   ·have HR := Lh (show Rg.chk r = 9 by unfold Rg.chk; rw [h1, h2, h3]; rfl)
    go_enter Tryz.func88, Tryz.ntmps88
    go_wp2_with (first | (go_at_call 124; refine (ident_any _ _ HN.out).mono ?_; rintro e w1 ⟨rfl, rfl⟩; rw [h1]) | (go_at_call 128; refine (mask_any _ _).mono ?_; rintro e w2 ⟨rfl, x2⟩; rw [← HY.out]; have s2 := Sm x2) | (go_at_call 104; refine (sized_any r _).mono ?_; rintro e w3 ⟨rfl, x3⟩; rw [h3]; have s3 := Sm x3))
    go_ret
    exact ⟨ret_int (by rw [HR.out]), grows⟩
   ·have HR := Lh (show Rg.chk r = 0 by unfold Rg.chk; rw [h1, h2, h3]; rfl)
    go_enter Tryz.func88, Tryz.ntmps88
    go_wp2_with (first | (go_at_call 124; refine (ident_any _ _ HN.out).mono ?_; rintro e w1 ⟨rfl, rfl⟩; rw [h1]) | (go_at_call 128; refine (mask_any _ _).mono ?_; rintro e w2 ⟨rfl, x2⟩; rw [← HY.out]; have s2 := Sm x2) | (go_at_call 104; refine (sized_any r _).mono ?_; rintro e w3 ⟨rfl, x3⟩; rw [h3]; have s3 := Sm x3))
    go_ret
    exact ⟨ret_int (by rw [HR.out]), grows⟩
namespace Rg
theorem eq_of {α : Type} {d : α} {a b : List α} (hl : a.length = b.length) (h : ∀ j, j < a.length → a.getD j d = b.getD j d) : a = b := by
 apply List.ext_getElem? ; intro i
 rcases Nat.lt_or_ge i a.length with h1 | h1
 ·have := h i h1
  rw [List.getD_eq_getElem?_getD, List.getD_eq_getElem?_getD, gE h1, gE (by omega)] at this
  rw [gE h1, gE (by omega)]
  simpa using this
 ·rw [List.getElem?_eq_none h1, List.getElem?_eq_none (by omega)]
end Rg
theorem eqvals_any {W : World} {v u : Value} {a b : List Int} (ha : Ns .u32 W v a) (hb : Ns .u32 W u b) :
 Calls Tryz.prog 68 #[v, u] W (Rets W (.bool (decide (a = b)))) := by
 obtain ⟨oa, ca, rfl⟩ := ns_slice ha
 obtain ⟨ob, cb, rfl⟩ := ns_slice hb
 have ma := ha.2
 have mb := hb.2
 unfold maxLen at ma mb
 have HA := Lh ha
 have HB := Lh hb
 clear ha hb
 by_cases hl : a.length = b.length
 ·have hle : a.length ≤ b.length := by omega
  have hge : b.length ≤ a.length := by omega
  have hne : ((a.length : Int) != (b.length : Int)) = false := by simp [hl]
  have HL := Lh hl
  clear hl
  go_enter Tryz.func68, Tryz.ntmps68
  go_wp2_with fail
  go_loopw [5] (fun i wr => ∃ k : Nat, k ≤ a.length ∧ i = .int .i64 k ∧ Ext W wr ∧ Hid (∀ j, j < k → a.getD j 0 = b.getD j 0)) (fun i _ => a.length - (intOf i).toNat)
  case atStart => exact ⟨0, Nat.zero_le _, rfl, eR _, Lh (by intro j hj; omega)⟩
  case round =>
   obtain ⟨k, hk, rfl, hx, HZ⟩ := hrel
   have sx := Sm hx
   by_cases hlt : k < a.length
   ·have hlt2 : k < b.length := by omega
    obtain ⟨x, hxk⟩ : ∃ x, a[k]? = some x := ⟨_, gE hlt⟩
    obtain ⟨y, hyk⟩ : ∃ y, b[k]? = some y := ⟨_, gE hlt2⟩
    obtain ⟨b1, o1, rfl, c1⟩ := ns_at HA.out (by omega)
    obtain ⟨b2, o2, rfl, c2⟩ := ns_at HB.out (by omega)
    have f1 := c1 k x hxk
    have f2 := c2 k y hyk
    have hga : a.getD k 0 = x := by rw [List.getD_eq_getElem?_getD, hxk]; rfl
    have hgb : b.getD k 0 = y := by rw [List.getD_eq_getElem?_getD, hyk]; rfl
    have HGA := Lh hga
    have HGB := Lh hgb
    clear c1 c2 hxk hyk hga hgb
    by_cases hxy : x = y
    ·have hb1 : (x != y) = false := by simp [hxy]
     have HXY := Lh hxy
     clear hxy
     go_wp2_with fail
     refine wp_region_later (by kernel_rfl) (by kernel_rfl) (eR _) ?_
     repeat (go_big_quiet_step (fail))
     refine wpQuiet_nil ?_
     intro w1 hxw1
     have sw1 := Sm hxw1
     go_wp2_with fail
     go_roundw
     case rel =>
      refine ⟨k + 1, by omega, by go_num, by exact hx.trans hxw1, Lh (fun j hj => ?_)⟩
      rcases Nat.lt_or_ge j k with h1 | h1
      ·exact HZ.out j h1
      ·obtain rfl : j = k := by omega
       rw [HGA.out, HGB.out, HXY.out]
     case measure => simp [intOf]; omega
    ·have hb1 : (x != y) = true := by simp [hxy]
     have HXY := Lh hxy
     clear hxy
     go_wp2_with fail
     refine wp_region_later (by kernel_rfl) (by kernel_rfl) (eR _) ?_
     repeat (go_big_quiet_step (fail))
     refine wpQuiet_nil ?_
     intro w1 hxw1
     have sw1 := Sm hxw1
     go_wp2_with fail
     go_ret
     exact ⟨ret_bool (dF (fun e => HXY.out (by rw [← HGA.out, ← HGB.out, e]))).symm, grows⟩
   ·obtain rfl : k = a.length := by omega
    go_wp2_with fail
    go_ret
    exact ⟨ret_bool (dTt (Rg.eq_of HL.out HZ.out)).symm, grows⟩
 ·have hne : ((a.length : Int) != (b.length : Int)) = true := by simp; omega
  have HL := Lh hl
  clear hl
  go_enter Tryz.func68, Tryz.ntmps68
  go_wp2_with fail
  go_ret
  exact ⟨ret_bool (dF (fun e => HL.out (by rw [e]))).symm, grows⟩
theorem refequal_any {W : World} {v u : Value} {a b : List (List Int)} (ha : Rows W 1 RowR v a) (hb : Rows W 1 RowR u b) :
 Calls Tryz.prog 26 #[v, u] W (Rets W (.bool (decide (a = b)))) := by
 obtain ⟨oa, ca, rfl, la, ma⟩ := ha.slice
 obtain ⟨ob, cb, rfl, lb, mb⟩ := hb.slice
 unfold maxLen at ma mb
 have HA := Lh ha
 have HB := Lh hb
 clear ha hb
 by_cases hl : a.length = b.length
 ·have hle : a.length ≤ b.length := by omega
  have hge : b.length ≤ a.length := by omega
  have hne : ((a.length : Int) != (b.length : Int)) = false := by simp [hl]
  have HL := Lh hl
  clear hl
  go_enter Tryz.func26, Tryz.ntmps26
  go_wp2_with fail
  go_loopw [5] (fun i wr => ∃ k : Nat, k ≤ a.length ∧ i = .int .i64 k ∧ Ext W wr ∧ Hid (∀ j, j < k → a.getD j [] = b.getD j [])) (fun i _ => a.length - (intOf i).toNat)
  case atStart => exact ⟨0, Nat.zero_le _, rfl, eR _, Lh (by intro j hj; omega)⟩
  case round =>
   obtain ⟨k, hk, rfl, hx, HZ⟩ := hrel
   have sx := Sm hx
   by_cases hlt : k < a.length
   ·have hlt2 : k < b.length := by omega
    obtain ⟨x, hxk⟩ : ∃ x, a[k]? = some x := ⟨_, gE hlt⟩
    obtain ⟨y, hyk⟩ : ∃ y, b[k]? = some y := ⟨_, gE hlt2⟩
    obtain ⟨b1, o1, hb1, _, _⟩ := Rows.at HA.out (by omega)
    obtain ⟨b2, o2, hb2, _, _⟩ := Rows.at HB.out (by omega)
    subst hb1 hb2
    obtain ⟨la1, lc1, f1, n1, _⟩ := rows_at HA.out k x hxk rfl
    obtain ⟨la2, lc2, f2, n2, _⟩ := rows_at HB.out k y hyk rfl
    have hga : a.getD k [] = x := by rw [List.getD_eq_getElem?_getD, hxk]; rfl
    have hgb : b.getD k [] = y := by rw [List.getD_eq_getElem?_getD, hyk]; rfl
    have HGA := Lh hga
    have HGB := Lh hgb
    obtain ⟨q, hq⟩ : ∃ q, q = decide (x = y) := ⟨_, rfl⟩
    have HEQ : Hid (∀ w, Ext W w → Calls Tryz.prog 68 #[.slice la1 x.length lc1, .slice la2 y.length lc2] w (Rets w (.bool q))) := Lh (fun w hw => by have h := eqvals_any (n1.ext hw) (n2.ext hw); rw [← hq] at h; exact h)
    have HQ := Lh hq
    clear hxk hyk hga hgb hq n1 n2
    cases q with
    | true =>
     go_wp2_with fail
     refine wp_region_later (by kernel_rfl) (by kernel_rfl) (eR _) ?_
     repeat (go_big_quiet_step (first | (go_at_call 68; exact Rets.later_at (HEQ.out _ grows))))
     refine wpQuiet_nil ?_
     intro w1 hxw1
     have sw1 := Sm hxw1
     go_wp2_with fail
     go_roundw
     case rel =>
      refine ⟨k + 1, by omega, by go_num, by exact hx.trans hxw1, Lh (fun j hj => ?_)⟩
      rcases Nat.lt_or_ge j k with h1 | h1
      ·exact HZ.out j h1
      ·obtain rfl : j = k := by omega
       rw [HGA.out, HGB.out, of_decide_eq_true HQ.out.symm]
     case measure => simp [intOf]; omega
    | false =>
     go_wp2_with fail
     refine wp_region_later (by kernel_rfl) (by kernel_rfl) (eR _) ?_
     repeat (go_big_quiet_step (first | (go_at_call 68; exact Rets.later_at (HEQ.out _ grows))))
     refine wpQuiet_nil ?_
     intro w1 hxw1
     have sw1 := Sm hxw1
     go_wp2_with fail
     go_ret
     exact ⟨ret_bool (dF (fun e => of_decide_eq_false HQ.out.symm (by rw [← HGA.out, ← HGB.out, e]))).symm, grows⟩
   ·obtain rfl : k = a.length := by omega
    go_wp2_with fail
    go_ret
    exact ⟨ret_bool (dTt (Rg.eq_of HL.out HZ.out)).symm, grows⟩
 ·have hne : ((a.length : Int) != (b.length : Int)) = true := by simp; omega
  have HL := Lh hl
  clear hl
  go_enter Tryz.func26, Tryz.ntmps26
  go_wp2_with fail
  go_ret
  exact ⟨ret_bool (dF (fun e => HL.out (by rw [e]))).symm, grows⟩
namespace Rg
def maxL (l : List Int) : Int := l.foldl max 0
theorem foldl_le {M : Int} : ∀ (l : List Int) (a : Int), l.foldl max a ≤ M ↔ a ≤ M ∧ ∀ x ∈ l, x ≤ M
 | [], a => by simp
 | y :: l, a => by
  rw [List.foldl_cons, foldl_le l]
  simp only [List.mem_cons, forall_eq_or_imp]
  constructor
  ·rintro ⟨h1, h2⟩; exact ⟨by omega, by omega, h2⟩
  ·rintro ⟨h1, h2, h3⟩; exact ⟨by omega, h3⟩
theorem max_take {l : List Int} {k : Nat} {x : Int} (h : l[k]? = some x) : maxL (l.take (k + 1)) = max (maxL (l.take k)) x := by
 unfold maxL
 rw [List.take_add_one, h]; simp
def fitB (r : Reg) (l : List Int) : Bool := (List.range l.length).all fun j => decide (l.getD j 0 ≤ Bv.mask r.w)
theorem mem_getD {l : List Int} {j : Nat} (h : j < l.length) : l.getD j 0 ∈ l := by
 rw [List.getD_eq_getElem?_getD, gE h]; exact List.getElem_mem h
theorem fit_iff {r : Reg} {l : List Int} : fitB r l = true ↔ ∀ x ∈ l, x ≤ Bv.mask r.w := by
 unfold fitB
 rw [List.all_eq_true]
 constructor
 ·intro h x hx
  obtain ⟨j, hj, rfl⟩ := List.mem_iff_getElem.1 hx
  have := h j (List.mem_range.2 hj)
  rw [List.getD_eq_getElem?_getD, gE hj] at this
  exact of_decide_eq_true this
 ·intro h j hj
  exact dTt (h _ (mem_getD (List.mem_range.1 hj)))
theorem fit_max {r : Reg} {l : List Int} : fitB r l = decide (maxL l ≤ Bv.mask r.w) := by
 rw [Bool.eq_iff_iff, fit_iff, decide_eq_true_iff]
 unfold maxL
 rw [foldl_le]
 exact ⟨fun h => ⟨(Bv.mask_bd r.w).1, h⟩, fun h => h.2⟩
theorem fit_nil {r : Reg} : fitB r [] = true := rfl
def lensB (rs : List Reg) (ls : List (List Int)) : Bool := (List.range ls.length).all fun i => decide (((ls.getD i []).length : Int) = (rs.getD i z).s)
def fitsB (rs : List Reg) (ls : List (List Int)) : Bool := (List.range ls.length).all fun i => fitB (rs.getD i z) (ls.getD i [])
def cc (rs : List Reg) (ls : List (List Int)) : Int := if ls.length = rs.length then (if lensB rs ls then (if fitsB rs ls then 0 else 9) else 2) else 2
theorem all_no {p : Nat → Bool} {n k : Nat} (hk : k < n) (h : p k = false) : (List.range n).all p = false := by
 rw [← Bool.not_eq_true, List.all_eq_true]
 intro ha
 have := ha k (List.mem_range.2 hk)
 rw [h] at this; cases this
theorem all_yes {p : Nat → Bool} {n : Nat} (h : ∀ j, j < n → p j = true) : (List.range n).all p = true :=
 List.all_eq_true.2 fun j hj => h j (List.mem_range.1 hj)
end Rg
theorem max_any {W : World} {v : Value} {l : List Int} (hn : Ns .u32 W v l) (hu : ∀ x ∈ l, U32 x) (h0 : 0 < l.length) :
 Calls Tryz.prog 145 #[v] W (Rets W (.int .u32 (Rg.maxL l))) := by
 obtain ⟨oa, ca, rfl⟩ := ns_slice hn
 have ma := hn.2
 unfold maxLen at ma
 have HN := Lh hn
 have HU := Lh hu
 obtain ⟨x0, hx0⟩ : ∃ x, l[0]? = some x := ⟨_, gE h0⟩
 obtain ⟨b1, o1, rfl, c1⟩ := ns_at hn h0
 have f0 := c1 0 x0 hx0
 rw [Nat.add_zero] at f0
 have hm0 : Rg.maxL (l.take 1) = x0 := by
  have h2 := Rg.max_take hx0
  have h3 := (hu x0 (List.mem_of_getElem? hx0)).1
  rw [show 0 + 1 = 1 from rfl] at h2
  rw [h2]; simp [Rg.maxL]; omega
 have HM0 := Lh hm0
 have HC1 := Lh c1
 clear hn hu c1 hx0 hm0
 go_enter Tryz.func145, Tryz.ntmps145
 go_wp2_with fail
 go_loopw [3, 4] (fun m i wr => ∃ k : Nat, 1 ≤ k ∧ k ≤ l.length ∧ i = .int .i64 k ∧ m = .int .u32 (Rg.maxL (l.take k)) ∧ wr = W) (fun _ i _ => l.length - (intOf i).toNat)
 case atStart => exact ⟨1, Nat.le_refl _, h0, rfl, by rw [HM0.out], rfl⟩
 case round =>
  obtain ⟨k, hk1, hk, rfl, rfl, rfl⟩ := hrel
  by_cases hlt : k < l.length
  ·obtain ⟨x, hxk⟩ : ∃ x, l[k]? = some x := ⟨_, gE hlt⟩
   have f1 := HC1.out k x hxk
   have hs := Rg.max_take hxk
   obtain ⟨M, hM⟩ : ∃ M, M = Rg.maxL (l.take k) := ⟨_, rfl⟩
   rw [← hM] at hs ⊢
   have HS := Lh hs
   clear hs hM hxk
   go_wp2_with fail
   go_roundw
   case rel => exact ⟨k + 1, by omega, by omega, by go_num, by rw [HS.out]; refine congrArg _ ?_; split <;> omega, (by first | exact rfl | trivial)⟩
   case measure => simp [intOf]; omega
  ·obtain rfl : k = l.length := by omega
   go_wp2_with fail
   go_ret
   exact ⟨ret_int (by rw [List.take_length]), grows⟩
theorem cc_any {W : World} {s : ByteArray} {a1 a2 a3 a4 a5 a6 a7 a8 : Option Addr} {n1 m1 n2 m2 m3 n4 m4 n5 m5 n6 m6 n7 m7 n8 m8 : Nat} {rs : List Rg.Reg} (hr : Rows W 3 Rg.RegR (.slice a3 rs.length m3) rs) {v : Value} {ls : List (List Int)} (hl : Rows W 1 RowR v ls) :
 Calls Tryz.prog 106 #[.agg #[.string s, .slice a1 n1 m1, .slice a2 n2 m2, .slice a3 rs.length m3, .slice a4 n4 m4, .slice a5 n5 m5, .slice a6 n6 m6, .slice a7 n7 m7, .slice a8 n8 m8], v] W (Rets W (.int .i64 (Rg.cc rs ls))) := by
 obtain ⟨lo, lc, rfl, la, ma⟩ := hl.slice
 obtain ⟨_, _, he, lb, mb⟩ := hr.slice
 simp only [Value.slice.injEq, true_and] at he
 obtain ⟨rfl, rfl⟩ := he
 unfold maxLen at ma mb
 have HL := Lh hl
 have HR := Lh hr
 clear hl hr
 have bb := aH W (.cells #[.string s, .slice a1 n1 m1, .slice a2 n2 m2, .slice a3 rs.length m3, .slice a4 n4 m4, .slice a5 n5 m5, .slice a6 n6 m6, .slice a7 n7 m7, .slice a8 n8 m8] 31)
 have p0 := alw (cQ 0 bb)
 have p1 := alw (cQ 1 bb)
 have p2 := alw (cQ 2 bb)
 have p3 := alw (cQ 3 bb)
 have p4 := alw (cQ 4 bb)
 have p5 := alw (cQ 5 bb)
 have p6 := alw (cQ 6 bb)
 have p7 := alw (cQ 7 bb)
 have p8 := alw (cQ 8 bb)
 clear bb
 by_cases h1 : ls.length = rs.length
 ·have hle : ls.length ≤ rs.length := by omega
  have hne : ((ls.length : Int) != (rs.length : Int)) = false := by simp [h1]
  have HLN := Lh h1
  clear h1
  go_enter Tryz.func106, Tryz.ntmps106
  go_wp2_with fail
  go_loopw [17] (fun i wr => ∃ k : Nat, k ≤ ls.length ∧ i = .int .i64 k ∧ wr = W.alloc (.cells #[.string s, .slice a1 n1 m1, .slice a2 n2 m2, .slice a3 rs.length m3, .slice a4 n4 m4, .slice a5 n5 m5, .slice a6 n6 m6, .slice a7 n7 m7, .slice a8 n8 m8] 31) ∧ Hid (∀ j, j < k → decide (((ls.getD j []).length : Int) = (rs.getD j Rg.z).s) = true)) (fun i _ => ls.length - (intOf i).toNat)
  case atStart => exact ⟨0, Nat.zero_le _, rfl, rfl, Lh (by intro j hj; omega)⟩
  case round =>
   obtain ⟨k, hk, rfl, rfl, HZ⟩ := hrel
   by_cases hlt : k < ls.length
   ·have hlt2 : k < rs.length := by omega
    obtain ⟨l, hlk⟩ : ∃ x, ls[k]? = some x := ⟨_, gE hlt⟩
    obtain ⟨g, hgk⟩ : ∃ y, rs[k]? = some y := ⟨_, gE hlt2⟩
    obtain ⟨b1, o1, hb1, _, _⟩ := Rows.at HL.out (by omega)
    obtain ⟨b2, o2, hb2, _, _⟩ := Rows.at HR.out (by omega)
    subst hb1 hb2
    obtain ⟨la1, lc1, f1, n1, _⟩ := rows_at HL.out k l hlk rfl
    obtain ⟨_, _, f2, _, _, q1, q2⟩ := regs_at HR.out k g hgk rfl
    have m1 := n1.2
    unfold maxLen at m1
    have hga : ls.getD k [] = l := by rw [List.getD_eq_getElem?_getD, hlk]; rfl
    have hgb : rs.getD k Rg.z = g := by rw [List.getD_eq_getElem?_getD, hgk]; rfl
    have HGA := Lh hga
    have HGB := Lh hgb
    clear hlk hgk hga hgb n1
    by_cases he : (l.length : Int) = g.s
    ·have heb : ((l.length : Int) != g.s) = false := by simp [he]
     have HE := Lh he
     clear he
     go_wp2_with fail
     go_roundw
     case rel =>
      refine ⟨k + 1, by omega, by go_num, (by first | exact rfl | trivial), Lh (fun j hj => ?_)⟩
      rcases Nat.lt_or_ge j k with h1 | h1
      ·exact HZ.out j h1
      ·obtain rfl : j = k := by omega
       rw [HGA.out, HGB.out]; exact dTt HE.out
     case measure => simp [intOf]; omega
    ·have heb : ((l.length : Int) != g.s) = true := by simp [he]
     have HE := Lh he
     clear he
     go_wp2_with fail
     go_ret
     exact ⟨ret_int (by unfold Rg.cc; rw [if_pos HLN.out, show Rg.lensB rs ls = false from Rg.all_no hlt (by rw [HGA.out, HGB.out]; exact dF HE.out)]; rfl), grows⟩
   ·obtain rfl : k = ls.length := by omega
    have HLB : Hid (Rg.lensB rs ls = true) := Lh (Rg.all_yes HZ.out)
    clear HZ
    go_wp2_with fail
    go_loopw [34] (fun i wr => ∃ k : Nat, k ≤ ls.length ∧ i = .int .i64 k ∧ Ext (W.alloc (.cells #[.string s, .slice a1 n1 m1, .slice a2 n2 m2, .slice a3 rs.length m3, .slice a4 n4 m4, .slice a5 n5 m5, .slice a6 n6 m6, .slice a7 n7 m7, .slice a8 n8 m8] 31)) wr ∧ Hid (∀ j, j < k → Rg.fitB (rs.getD j Rg.z) (ls.getD j []) = true)) (fun i _ => ls.length - (intOf i).toNat)
    case atStart => exact ⟨0, Nat.zero_le _, rfl, eR _, Lh (by intro j hj; omega)⟩
    case round =>
     obtain ⟨k, hk, rfl, hx, HZ⟩ := hrel
     have sx := Sm hx
     by_cases hlt : k < ls.length
     ·have hlt2 : k < rs.length := by omega
      obtain ⟨l, hlk⟩ : ∃ x, ls[k]? = some x := ⟨_, gE hlt⟩
      obtain ⟨g, hgk⟩ : ∃ y, rs[k]? = some y := ⟨_, gE hlt2⟩
      obtain ⟨b1, o1, hb1, _, _⟩ := Rows.at HL.out (by omega)
      obtain ⟨b2, o2, hb2, _, _⟩ := Rows.at HR.out (by omega)
      subst hb1 hb2
      obtain ⟨la1, lc1, f1, n1, u1⟩ := rows_at HL.out k l hlk rfl
      obtain ⟨_, f3, _, _, q1, q2⟩ := regs_at HR.out k g hgk rfl
      have m1 := n1.2
      unfold maxLen at m1
      have hga : ls.getD k [] = l := by rw [List.getD_eq_getElem?_getD, hlk]; rfl
      have hgb : rs.getD k Rg.z = g := by rw [List.getD_eq_getElem?_getD, hgk]; rfl
      have HGA := Lh hga
      have HGB := Lh hgb
      clear hlk hgk hga hgb
      by_cases h0 : 0 < l.length
      ·obtain ⟨X, hX⟩ : ∃ X, X = Rg.maxL l := ⟨_, rfl⟩
       obtain ⟨M, hM⟩ : ∃ M, M = Bv.mask g.w := ⟨_, rfl⟩
       have HMX : Hid (∀ w, Ext W w → Calls Tryz.prog 145 #[.slice la1 l.length lc1] w (Rets w (.int .u32 X))) := Lh (fun w hw => by have h := max_any (n1.ext hw) u1 h0; rw [← hX] at h; exact h)
       have HMK : Hid (∀ w, Calls Tryz.prog 128 #[.int .i64 g.w] w (Rets w (.int .u32 M))) := Lh (fun w => by have h := mask_any g.w w; rw [← hM] at h; exact h)
       have HFX : Hid (Rg.fitB g l = decide (X ≤ M)) := Lh (by rw [hX, hM]; exact Rg.fit_max)
       have d1 : decide ((0 : Int) < (l.length : Int)) = true := dTt (by omega)
       have d2 : decide (0 < l.length) = true := dTt h0
       clear n1 u1 hX hM
       by_cases hle : X ≤ M
       ·have d3 : decide (M < X) = false := dF (by omega)
        go_wp2_with fail
        refine wp_region_later (by kernel_rfl) (by kernel_rfl) (eR _) ?_
        repeat (go_big_quiet_step (first | (go_at_call 145; exact Rets.later_at (HMX.out _ grows)) | (go_at_call 128; exact Rets.later_at (HMK.out _))))
        refine wpQuiet_nil ?_
        intro w1 hxw1
        have sw1 := Sm hxw1
        go_wp2_with fail
        go_roundw
        case rel =>
         refine ⟨k + 1, by omega, by go_num, by exact hx.trans hxw1, Lh (fun j hj => ?_)⟩
         rcases Nat.lt_or_ge j k with h1 | h1
         ·exact HZ.out j h1
         ·obtain rfl : j = k := by omega
          rw [HGA.out, HGB.out, HFX.out]; exact dTt hle
        case measure => simp [intOf]; omega
       ·have d3 : decide (M < X) = true := dTt (by omega)
        go_wp2_with fail
        refine wp_region_later (by kernel_rfl) (by kernel_rfl) (eR _) ?_
        repeat (go_big_quiet_step (first | (go_at_call 145; exact Rets.later_at (HMX.out _ grows)) | (go_at_call 128; exact Rets.later_at (HMK.out _))))
        refine wpQuiet_nil ?_
        intro w1 hxw1
        have sw1 := Sm hxw1
        go_wp2_with fail
        go_ret
        exact ⟨ret_int (by unfold Rg.cc; rw [if_pos HLN.out, HLB.out, show Rg.fitsB rs ls = false from Rg.all_no hlt (by rw [HGA.out, HGB.out, HFX.out]; exact dF (by omega))]; rfl), grows⟩
      ·have d1 : decide ((0 : Int) < (l.length : Int)) = false := dF (by omega)
       have d2 : decide (0 < l.length) = false := dF h0
       have HNL : Hid (l = []) := Lh (List.length_eq_zero_iff.1 (by omega))
       clear n1 u1
       go_wp2_with fail
       refine wp_region_later (by kernel_rfl) (by kernel_rfl) (eR _) ?_
       repeat (go_big_quiet_step (fail))
       refine wpQuiet_nil ?_
       intro w1 hxw1
       have sw1 := Sm hxw1
       go_wp2_with fail
       go_roundw
       case rel =>
        refine ⟨k + 1, by omega, by go_num, by exact hx.trans hxw1, Lh (fun j hj => ?_)⟩
        rcases Nat.lt_or_ge j k with h1 | h1
        ·exact HZ.out j h1
        ·obtain rfl : j = k := by omega
         rw [HGA.out, HGB.out, HNL.out]; exact Rg.fit_nil
       case measure => simp [intOf]; omega
     ·obtain rfl : k = ls.length := by omega
      go_wp2_with fail
      go_ret
      exact ⟨ret_int (by unfold Rg.cc; rw [if_pos HLN.out, HLB.out, show Rg.fitsB rs ls = true from Rg.all_yes HZ.out]; rfl), grows⟩
 ·have hne : ((ls.length : Int) != (rs.length : Int)) = true := by simp; omega
  have HLN := Lh h1
  clear h1
  go_enter Tryz.func106, Tryz.ntmps106
  go_wp2_with fail
  go_ret
  exact ⟨ret_int (by unfold Rg.cc; rw [if_neg HLN.out]), grows⟩
/-- a table with rows of its own: the cells vs of the table are the rows' slices, the data ls; every block is B or later, no two rows share one -/
def Tab (B : Nat) (w : World) (v : Value) (vs : List Value) (ls : List (List Int)) : Prop :=
 vs.length = ls.length ∧ w.ownsRow B 61 1 v ls.length vs ∧
 (∀ (i : Nat) (u : Value) (l : List Int), vs[i]? = some u → ls[i]? = some l → w.ownsRow B 118 1 u l.length (l.map (.int .u32)) ∧ ∀ x ∈ l, U32 x) ∧
 (∀ (i j : Nat) (u u' : Value) (k : Nat), vs[i]? = some u → vs[j]? = some u' → u.ownBlock = some k → u'.ownBlock = some k → i = j)
theorem own_keep {w w' : World} {base : Nat} {e : TypeId} {size : Nat} {v : Value} {n : Nat} {xs : List Value} (h : w.ownsRow base e size v n xs) (hb : ∀ k, v.ownBlock = some k → w'.heap[k]? = w.heap[k]?) : w'.ownsRow base e size v n xs := by
 obtain ⟨h1, h2⟩ := h
 refine ⟨h1, ?_⟩
 rcases h2 with h2 | ⟨g, cap, cur, rfl, hg, hh, r⟩
 ·exact .inl h2
 ·exact .inr ⟨g, cap, cur, rfl, hg, by rw [hb g rfl]; exact hh, r⟩
theorem own_heap {w : World} {base : Nat} {e : TypeId} {size : Nat} {v : Value} {n : Nat} {xs : List Value} (h : w.ownsRow base e size v n xs) {k : Nat} (hk : v.ownBlock = some k) : ∃ cur, w.heap[k]? = some (.cells cur e (0, 0)) ∧ base ≤ k := by
 rcases h.2 with ⟨rfl, _⟩ | ⟨g, cap, cur, rfl, hg, hh, r⟩
 ·simp [Value.ownBlock] at hk
 ·simp only [Value.ownBlock, Option.some.injEq] at hk
  subst hk
  exact ⟨cur, hh, hg⟩
theorem own_lt {w : World} {base : Nat} {e : TypeId} {size : Nat} {v : Value} {n : Nat} {xs : List Value} (h : w.ownsRow base e size v n xs) {k : Nat} (hk : v.ownBlock = some k) : k < w.heap.size := by
 obtain ⟨cur, hh, _⟩ := own_heap h hk
 exact lt_of_block hh
theorem own_max {w : World} {base : Nat} {e : TypeId} {size : Nat} {v : Value} {n : Nat} {xs : List Value} (h : w.ownsRow base e size v n xs) : n ≤ maxLen := by
 rcases h.2 with ⟨_, rfl⟩ | ⟨g, cap, cur, rfl, hg, hh, h1, h2, _⟩
 ·exact Nat.zero_le _
 ·exact Nat.le_trans h1 h2
theorem ints_one {k : IntKind} {l : List Int} : ∀ u ∈ l.map (Value.int k), u.oneCell' = true := fun u hu => by
 rw [List.mem_map] at hu; obtain ⟨x, _, rfl⟩ := hu; rfl
namespace Tab
variable {B : Nat} {w w' : World} {v : Value} {vs : List Value} {ls : List (List Int)}
theorem ne (h : Tab B w v vs ls) {i : Nat} {u : Value} {k : Nat} (hi : vs[i]? = some u) (hk : u.ownBlock = some k) : v.ownBlock ≠ some k := by
 obtain ⟨h1, h2, h3, _⟩ := h
 intro e
 obtain ⟨l, hl⟩ : ∃ l, ls[i]? = some l := ⟨_, gE (by rw [← h1]; exact (List.getElem?_eq_some_iff.1 hi).1)⟩
 obtain ⟨c1, g1, _⟩ := own_heap h2 e
 obtain ⟨c2, g2, _⟩ := own_heap (h3 i u l hi hl).1 hk
 exact ne_of_type g1 g2 (by decide) rfl
theorem row (h : Tab B w v vs ls) {i : Nat} {l : List Int} (hl : ls[i]? = some l) : ∃ u, vs[i]? = some u ∧ w.ownsRow B 118 1 u l.length (l.map (.int .u32)) ∧ ∀ x ∈ l, U32 x := by
 have hlt := (List.getElem?_eq_some_iff.1 hl).1
 obtain ⟨u, hu⟩ : ∃ u, vs[i]? = some u := ⟨_, gE (by rw [h.1]; exact hlt)⟩
 exact ⟨u, hu, h.2.2.1 i u l hu hl⟩
theorem rows (h : Tab B w v vs ls) : Rows w 1 RowR v ls := by
 have hh := h
 obtain ⟨h1, h2, h3, h4⟩ := h
 rcases h2.2 with ⟨rfl, h0⟩ | ⟨g, cap, cur, rfl, hg, hx, q1, q2, _⟩
 ·exact .inl ⟨rfl, List.eq_nil_of_length_eq_zero h0⟩
 ·refine .inr ⟨⟨g, 0, none⟩, cap, rfl, q1, q2, fun _ => rfl, fun i d hi => ?_⟩
  obtain ⟨u, hu, ho, hU⟩ := hh.row hi
  refine ⟨[u], rfl, ⟨u, rfl, ⟨own_src ho ints_one, own_max ho⟩, hU⟩, fun j x hj => ?_⟩
  cases j with
  | succ j => simp at hj
  | zero =>
   simp only [List.getElem?_cons_zero, Option.some.injEq] at hj
   subst hj
   have := h2.cells (g := g) rfl i u hu
   rw [add_mk] at this
   rw [Nat.mul_one, Nat.add_zero]; exact this
theorem ext (h : Tab B w v vs ls) (hx : Ext w w') : Tab B w' v vs ls :=
 ⟨h.1, own_ext h.2.1 hx, fun i u l hu hl => ⟨own_ext (h.2.2.1 i u l hu hl).1 hx, (h.2.2.1 i u l hu hl).2⟩, h.2.2.2⟩
/-- a new row laid into the table's cell i -/
theorem setRow {G n c i g m k : Nat} {l : List Int} (h : Tab B w (.slice (some ⟨G, 0, none⟩) n c) vs ls) (hi : i < ls.length) (ho : w.ownsRow B 118 1 (.slice (some ⟨g, 0, none⟩) m k) l.length (l.map (.int .u32))) (hU : ∀ x ∈ l, U32 x)
 (hf : ∀ (j : Nat) (u : Value), vs[j]? = some u → u.ownBlock ≠ some g) : Tab B (w.setCell ⟨G, i, none⟩ (.slice (some ⟨g, 0, none⟩) m k)) (.slice (some ⟨G, 0, none⟩) n c) (vs.set i (.slice (some ⟨g, 0, none⟩) m k)) (ls.set i l) := by
 have hh := h
 obtain ⟨h1, h2, h3, h4⟩ := h
 rcases h2.2 with ⟨e, _⟩ | ⟨G', cap, cur, e, hB, hG, q1, q2, q3, q4⟩
 ·cases e
 ·simp only [Value.slice.injEq, Option.some.injEq, Addr.mk.injEq, and_true] at e
  obtain ⟨rfl, rfl, rfl⟩ := e
  have hother : ∀ q, q ≠ G → (w.setCell ⟨G, i, none⟩ (.slice (some ⟨g, 0, none⟩) m k)).heap[q]? = w.heap[q]? := fun q hq => Below.heap_setCell _ _ _ _ (fun e => hq e)
  obtain ⟨cg, hg, _⟩ := own_heap ho rfl
  refine ⟨by simp [h1], ?_, fun j u d hj hd => ?_, fun a b u u' q ha hb hu hu' => ?_⟩
  ·rw [List.length_set]
   refine ⟨by simp [h2.1], .inr ⟨G, c, cur.setIfInBounds i (.slice (some ⟨g, 0, none⟩) m k), rfl, hB, setCell_heap hG, q1, q2, by simpa using q3, ?_⟩⟩
   rw [← q4, Array.toList_setIfInBounds, List.take_set]
  ·by_cases hij : i = j
   ·subst hij
    rw [List.getElem?_set_self hi] at hd
    rw [List.getElem?_set_self (by rw [h1]; exact hi)] at hj
    obtain rfl := Option.some.inj hd
    obtain rfl := Option.some.inj hj
    exact ⟨own_keep ho (fun q e => hother q (fun e' => by
     simp only [Value.ownBlock, Option.some.injEq] at e
     exact ne_of_type hG hg (by decide) (by rw [← e', e]))), hU⟩
   ·rw [List.getElem?_set_ne hij] at hd hj
    obtain ⟨z1, z2⟩ := h3 j u d hj hd
    exact ⟨own_keep z1 (fun q e => hother q (fun e' => hh.ne hj e (by rw [e']; rfl))), z2⟩
  ·by_cases hia : i = a <;> by_cases hib : i = b
   ·omega
   ·subst hia
    rw [List.getElem?_set_self (by rw [h1]; exact hi)] at ha
    rw [List.getElem?_set_ne hib] at hb
    obtain rfl := Option.some.inj ha
    simp only [Value.ownBlock, Option.some.injEq] at hu
    subst hu
    exact absurd hu' (hf b u' hb)
   ·subst hib
    rw [List.getElem?_set_self (by rw [h1]; exact hi)] at hb
    rw [List.getElem?_set_ne hia] at ha
    obtain rfl := Option.some.inj hb
    simp only [Value.ownBlock, Option.some.injEq] at hu'
    subst hu'
    exact absurd hu (hf a u ha)
   ·rw [List.getElem?_set_ne hia] at ha
    rw [List.getElem?_set_ne hib] at hb
    exact h4 a b u u' q ha hb hu hu'
end Tab
end Go.Proofs.YthmokhkkdgnbhaaGreat
