/- Parsers: the cases of a state checked, walked, the package's and the reference's. Parsers: a state checked, walked (the package). Parsers: Check, walked (the package): the names that were met are kept in a map. The deparser's list: Check, its data; slices.Index and slices.Contains of ints, walked. The deparser's list: Check and the reference's Check, walked. Registers: their data; Check of the package and of its reference, walked. Registers: tables of rows of values that the code has made itself. No program in sight. Registers: New and its reference, walked. Programs whole: their data, and how they lie in memory. Expressions: what Check says of them: plain definitions. No condition. -/
import Derived.Test.YtkiafiaodockbaaGreatKqAB
import Derived.Deep.OwnRows
import Derived.Maps.Own
import Derived.Maps.Views
import Derived.StringKeys
set_option maxRecDepth 8000
set_option maxHeartbeats 16000000
namespace Go.Proofs.YtkiafiaodockbaaGreat
open Go.RowKit
theorem ret_two {R : Int × Int} {a b : Int} (h : R = (a, b)) : Ending.returned (.tuple #[.int .i64 a, .int .i64 b]) = .returned (.tuple #[.int .i64 R.1, .int .i64 R.2]) := by rw [h]
abbrev Yq1 (s : ByteArray) (a1 : Option Addr) (m1 : Nat) (P : Pg.Prog) (a2 : Option Addr) (m2 : Nat) (a3 : Option Addr) (m3 : Nat) (n3 : Nat) (a4 : Option Addr) (m4 : Nat) (n4 : Nat) (a5 : Option Addr) (m5 : Nat) (n5 : Nat) (ab : Nat) (ao : Nat) (m6 : Nat) (ss_length : Nat) (a7 : Option Addr) (m7 : Nat) (n7 : Nat) (a8 : Option Addr) (m8 : Nat) : Array Value := #[.string s, .slice a1 P.hs.length m1, .slice a2 P.md.length m2, .slice a3 n3 m3, .slice a4 n4 m4, .slice a5 n5 m5, .slice (some ⟨ab, ao, none⟩) ss_length m6, .slice a7 n7 m7, .slice a8 P.dp.length m8]
theorem ccase_any {W : World} {p : Pg.PV} {P : Pg.Prog} {ss : List Ps.St} (hq : Ps.IsQ W p P ss) (k : Nat) (x : Ps.St) (hk : ss[k]? = some x) (c : Ps.Case) (hv : U32 c.v) (hm : U32 c.m) : Calls Tryz.prog 114 #[p.val, .int .i64 k, .agg #[.int .u32 c.v, .int .u32 c.m, .int .i64 c.nx]] W (Rets W (.int .i64 (Ps.caseE (Pg.wid P x.h x.f) ss.length k c))) := by
 obtain ⟨s, a1, a2, a3, a4, a5, a6, a7, a8, m1, m2, n3, m3, n4, m4, n5, m5, n6, m6, n7, m7, m8, hf⟩ := hq.1.form
 obtain ⟨rfl, hhs, hmd, _, hl1, hl2, _⟩ := hf
 have hss := hq.2
 dsimp only at hss
 obtain ⟨a6', m6', e6, hl6, hc6⟩ := hss.slice
 simp only [Value.slice.injEq] at e6
 obtain ⟨rfl, rfl, rfl⟩ := e6
 unfold maxLen at hc6
 obtain ⟨ab, ao, rfl, _, _⟩ := hss.at (by have := (List.getElem?_eq_some_iff.1 hk).1; omega)
 have hkl : k < ss.length := (List.getElem?_eq_some_iff.1 hk).1
 obtain ⟨ea, ec, ca, cc, hnm, hex, hcs, hcl, hcm, g0, g1, g2, g3, g4, g5, g6⟩ := st_at hss k x hk rfl
 obtain ⟨wd, hwd⟩ : ∃ z, z = Pg.wid P x.h x.f := ⟨_, rfl⟩
 obtain ⟨fv, hfv⟩ : ∃ z, z = Bv.fits c.v wd := ⟨_, rfl⟩
 obtain ⟨fm, hfm⟩ : ∃ z, z = Bv.fits c.m wd := ⟨_, rfl⟩
 obtain ⟨lb, hlb⟩ : ∃ z, z = Ps.leads ss.length k c.nx := ⟨_, rfl⟩
 have HW : Hid (∀ w, Ext W w → Calls Tryz.prog 112 #[.agg (Yq1 s a1 m1 P a2 m2 a3 m3 n3 a4 m4 n4 a5 m5 n5 ab ao m6 ss.length a7 m7 n7 a8 m8), .agg #[.int .i64 x.h, .int .i64 x.f]] w (Rets w (.int .i64 wd))) := Lh (fun w hx => by have h := width_any (hq.1.ext hx) x.h x.f; rw [← hwd] at h; exact h)
 have HL : Hid (∀ w, Ext W w → Calls Tryz.prog 115 #[.agg (Yq1 s a1 m1 P a2 m2 a3 m3 n3 a4 m4 n4 a5 m5 n5 ab ao m6 ss.length a7 m7 n7 a8 m8), .int .i64 k, .int .i64 c.nx] w (Rets w (.bool lb))) := Lh (fun w hx => by have h := leads_any (hq.ext hx) k c.nx; rw [← hlb] at h; exact h)
 have HFV : Hid (∀ w, Calls Tryz.prog 140 #[.int .u32 c.v, .int .i64 wd] w (Rets w (.bool fv))) := Lh (fun w => by have h := fits_any c.v wd w; rw [← hfv] at h; exact h)
 have HFM : Hid (∀ w, Calls Tryz.prog 140 #[.int .u32 c.m, .int .i64 wd] w (Rets w (.bool fm))) := Lh (fun w => by have h := fits_any c.m wd w; rw [← hfm] at h; exact h)
 have HE : Hid (Ps.caseE wd ss.length k c = if fv && fm then (if bits BinOp.and IntKind.u32 c.v c.m = c.v then (if lb then 0 else 14) else 5) else 9) := Lh (by unfold Ps.caseE; rw [← hfv, ← hfm, ← hlb])
 have hz := Ps.andNot_zero hv hm
 rw [← hwd]
 obtain ⟨E, hE⟩ : ∃ z, z = Ps.caseE wd ss.length k c := ⟨_, rfl⟩
 rw [← hE] at HE ⊢
 clear hwd hfv hfm hlb hE
 have y0 := alw g3
 have y1 := alw g4
 have bx := aH W (.cells (Yq1 s a1 m1 P a2 m2 a3 m3 n3 a4 m4 n4 a5 m5 n5 ab ao m6 ss.length a7 m7 n7 a8 m8) 31)
 have pc0 := alw (cQ 0 bx)
 have pc1 := alw (cQ 1 bx)
 have pc2 := alw (cQ 2 bx)
 have pc3 := alw (cQ 3 bx)
 have pc4 := alw (cQ 4 bx)
 have pc5 := alw (cQ 5 bx)
 have pc6 := alw (cQ 6 bx)
 have pc7 := alw (cQ 7 bx)
 have pc8 := alw (cQ 8 bx)
 clear bx
 have bx := aH (W.alloc (.cells (Yq1 s a1 m1 P a2 m2 a3 m3 n3 a4 m4 n4 a5 m5 n5 ab ao m6 ss.length a7 m7 n7 a8 m8) 31)) (.cells #[.int .u32 c.v, .int .u32 c.m, .int .i64 c.nx] 211)
 rw [szA] at bx
 have cc0 := alw (cQ 0 bx)
 have cc1 := alw (cQ 1 bx)
 have cc2 := alw (cQ 2 bx)
 clear bx
 dsimp only [Pg.PV.val]
 clear hq hhs hmd hss hk hex hcs g0 g1 g2 g3 g4 g5 g6
 cases fv with
 | false =>
  go_enter Tryz.func114, Tryz.ntmps114
  go_wp2_with fail
  refine Rel.region (W := ((W.alloc (.cells (Yq1 s a1 m1 P a2 m2 a3 m3 n3 a4 m4 n4 a5 m5 n5 ab ao m6 ss.length a7 m7 n7 a8 m8) 31)).alloc (.cells #[.int .u32 c.v, .int .u32 c.m, .int .i64 c.nx] 211))) (Rel.tab [(7, fun v _ => v = .int .i64 wd)]) (Rel.tab_lasts (by intro p hp v w w' hr hx; simp only [List.mem_cons, List.not_mem_nil, or_false] at hp; subst hp; exact hr)) (by kernel_rfl) (by kernel_rfl) (eR _) ?_
  refine Rel.chunk 7 rfl rfl rfl ?_
  simp only [tkS, tkZ, dpS, dpZ, Nat.reduceAdd]
  repeat (go_big_quiet_step (fail))
  refine wpQuiet_nil ?_
  refine Rel.callG _ rfl rfl rfl Tryz.func112 (by nofun) (by decide) #[.agg (Yq1 s a1 m1 P a2 m2 a3 m3 n3 a4 m4 n4 a5 m5 n5 ab ao m6 ss.length a7 m7 n7 a8 m8), .agg #[.int .i64 x.h, .int .i64 x.f]] rfl (fun w hx _ => by refine (HW.out w ((grows (a := W) (b := ((W.alloc (.cells (Yq1 s a1 m1 P a2 m2 a3 m3 n3 a4 m4 n4 a5 m5 n5 ab ao m6 ss.length a7 m7 n7 a8 m8) 31)).alloc (.cells #[.int .u32 c.v, .int .u32 c.m, .int .i64 c.nx] 211)))).trans hx)).mono ?_; rintro e w9 ⟨he, hx9⟩; exact ⟨_, he, hx9, rfl⟩) ?_
  intro v7 wq7 _ _ r7
  subst r7
  simp only [Act.put, stA, stS, stZ]
  refine Rel.chunk 1 rfl rfl rfl ?_
  simp only [tkS, tkZ, dpS, dpZ, Nat.reduceAdd]
  repeat (go_big_quiet_step (fail))
  refine wpQuiet_nil ?_
  refine Rel.fin ?_
  intro w3 x3 _
  have s3 := Sm x3
  go_wp2_with fail
  refine via (HFV.out _) fun w4 xw4 sw4 => ?_
  go_wp2_with fail
  go_ret
  exact ⟨ret_int (by rw [HE.out]; rfl), grows⟩
 | true =>
  cases fm with
  | false =>
   go_enter Tryz.func114, Tryz.ntmps114
   go_wp2_with fail
   refine Rel.region (W := ((W.alloc (.cells (Yq1 s a1 m1 P a2 m2 a3 m3 n3 a4 m4 n4 a5 m5 n5 ab ao m6 ss.length a7 m7 n7 a8 m8) 31)).alloc (.cells #[.int .u32 c.v, .int .u32 c.m, .int .i64 c.nx] 211))) (Rel.tab [(7, fun v _ => v = .int .i64 wd)]) (Rel.tab_lasts (by intro p hp v w w' hr hx; simp only [List.mem_cons, List.not_mem_nil, or_false] at hp; subst hp; exact hr)) (by kernel_rfl) (by kernel_rfl) (eR _) ?_
   refine Rel.chunk 7 rfl rfl rfl ?_
   simp only [tkS, tkZ, dpS, dpZ, Nat.reduceAdd]
   repeat (go_big_quiet_step (fail))
   refine wpQuiet_nil ?_
   refine Rel.callG _ rfl rfl rfl Tryz.func112 (by nofun) (by decide) #[.agg (Yq1 s a1 m1 P a2 m2 a3 m3 n3 a4 m4 n4 a5 m5 n5 ab ao m6 ss.length a7 m7 n7 a8 m8), .agg #[.int .i64 x.h, .int .i64 x.f]] rfl (fun w hx _ => by refine (HW.out w ((grows (a := W) (b := ((W.alloc (.cells (Yq1 s a1 m1 P a2 m2 a3 m3 n3 a4 m4 n4 a5 m5 n5 ab ao m6 ss.length a7 m7 n7 a8 m8) 31)).alloc (.cells #[.int .u32 c.v, .int .u32 c.m, .int .i64 c.nx] 211)))).trans hx)).mono ?_; rintro e w9 ⟨he, hx9⟩; exact ⟨_, he, hx9, rfl⟩) ?_
   intro v7 wq7 _ _ r7
   subst r7
   simp only [Act.put, stA, stS, stZ]
   refine Rel.chunk 1 rfl rfl rfl ?_
   simp only [tkS, tkZ, dpS, dpZ, Nat.reduceAdd]
   repeat (go_big_quiet_step (fail))
   refine wpQuiet_nil ?_
   refine Rel.fin ?_
   intro w3 x3 _
   have s3 := Sm x3
   go_wp2_with fail
   refine via (HFV.out _) fun w4 xw4 sw4 => ?_
   go_wp2_with fail
   refine via (HFM.out _) fun w5 xw5 sw5 => ?_
   go_wp2_with fail
   go_ret
   exact ⟨ret_int (by rw [HE.out]; rfl), grows⟩
  | true =>
   by_cases hsy : bits BinOp.and IntKind.u32 c.v c.m = c.v
   ·have z1 : (bits BinOp.andNot IntKind.u32 c.v c.m != 0) = false := by rw [hz.2 hsy]; rfl
    have z2 : bits BinOp.andNot IntKind.u32 c.v c.m = 0 := hz.2 hsy
    have HSY := Lh hsy
    clear hsy hz
    cases lb with
    | false =>
     go_enter Tryz.func114, Tryz.ntmps114
     go_wp2_with fail
     refine Rel.region (W := ((W.alloc (.cells (Yq1 s a1 m1 P a2 m2 a3 m3 n3 a4 m4 n4 a5 m5 n5 ab ao m6 ss.length a7 m7 n7 a8 m8) 31)).alloc (.cells #[.int .u32 c.v, .int .u32 c.m, .int .i64 c.nx] 211))) (Rel.tab [(7, fun v _ => v = .int .i64 wd)]) (Rel.tab_lasts (by intro p hp v w w' hr hx; simp only [List.mem_cons, List.not_mem_nil, or_false] at hp; subst hp; exact hr)) (by kernel_rfl) (by kernel_rfl) (eR _) ?_
     refine Rel.chunk 7 rfl rfl rfl ?_
     simp only [tkS, tkZ, dpS, dpZ, Nat.reduceAdd]
     repeat (go_big_quiet_step (fail))
     refine wpQuiet_nil ?_
     refine Rel.callG _ rfl rfl rfl Tryz.func112 (by nofun) (by decide) #[.agg (Yq1 s a1 m1 P a2 m2 a3 m3 n3 a4 m4 n4 a5 m5 n5 ab ao m6 ss.length a7 m7 n7 a8 m8), .agg #[.int .i64 x.h, .int .i64 x.f]] rfl (fun w hx _ => by refine (HW.out w ((grows (a := W) (b := ((W.alloc (.cells (Yq1 s a1 m1 P a2 m2 a3 m3 n3 a4 m4 n4 a5 m5 n5 ab ao m6 ss.length a7 m7 n7 a8 m8) 31)).alloc (.cells #[.int .u32 c.v, .int .u32 c.m, .int .i64 c.nx] 211)))).trans hx)).mono ?_; rintro e w9 ⟨he, hx9⟩; exact ⟨_, he, hx9, rfl⟩) ?_
     intro v7 wq7 _ _ r7
     subst r7
     simp only [Act.put, stA, stS, stZ]
     refine Rel.chunk 1 rfl rfl rfl ?_
     simp only [tkS, tkZ, dpS, dpZ, Nat.reduceAdd]
     repeat (go_big_quiet_step (fail))
     refine wpQuiet_nil ?_
     refine Rel.fin ?_
     intro w3 x3 _
     have s3 := Sm x3
     go_wp2_with fail
     refine via (HFV.out _) fun w4 xw4 sw4 => ?_
     go_wp2_with fail
     refine via (HFM.out _) fun w5 xw5 sw5 => ?_
     go_wp2_with fail
     refine via (HL.out _ grows) fun w6 xw6 sw6 => ?_
     go_wp2_with fail
     go_ret
     exact ⟨ret_int (by rw [HE.out, if_pos HSY.out]; rfl), grows⟩
    | true =>
     go_enter Tryz.func114, Tryz.ntmps114
     go_wp2_with fail
     refine Rel.region (W := ((W.alloc (.cells (Yq1 s a1 m1 P a2 m2 a3 m3 n3 a4 m4 n4 a5 m5 n5 ab ao m6 ss.length a7 m7 n7 a8 m8) 31)).alloc (.cells #[.int .u32 c.v, .int .u32 c.m, .int .i64 c.nx] 211))) (Rel.tab [(7, fun v _ => v = .int .i64 wd)]) (Rel.tab_lasts (by intro p hp v w w' hr hx; simp only [List.mem_cons, List.not_mem_nil, or_false] at hp; subst hp; exact hr)) (by kernel_rfl) (by kernel_rfl) (eR _) ?_
     refine Rel.chunk 7 rfl rfl rfl ?_
     simp only [tkS, tkZ, dpS, dpZ, Nat.reduceAdd]
     repeat (go_big_quiet_step (fail))
     refine wpQuiet_nil ?_
     refine Rel.callG _ rfl rfl rfl Tryz.func112 (by nofun) (by decide) #[.agg (Yq1 s a1 m1 P a2 m2 a3 m3 n3 a4 m4 n4 a5 m5 n5 ab ao m6 ss.length a7 m7 n7 a8 m8), .agg #[.int .i64 x.h, .int .i64 x.f]] rfl (fun w hx _ => by refine (HW.out w ((grows (a := W) (b := ((W.alloc (.cells (Yq1 s a1 m1 P a2 m2 a3 m3 n3 a4 m4 n4 a5 m5 n5 ab ao m6 ss.length a7 m7 n7 a8 m8) 31)).alloc (.cells #[.int .u32 c.v, .int .u32 c.m, .int .i64 c.nx] 211)))).trans hx)).mono ?_; rintro e w9 ⟨he, hx9⟩; exact ⟨_, he, hx9, rfl⟩) ?_
     intro v7 wq7 _ _ r7
     subst r7
     simp only [Act.put, stA, stS, stZ]
     refine Rel.chunk 1 rfl rfl rfl ?_
     simp only [tkS, tkZ, dpS, dpZ, Nat.reduceAdd]
     repeat (go_big_quiet_step (fail))
     refine wpQuiet_nil ?_
     refine Rel.fin ?_
     intro w3 x3 _
     have s3 := Sm x3
     go_wp2_with fail
     refine via (HFV.out _) fun w4 xw4 sw4 => ?_
     go_wp2_with fail
     refine via (HFM.out _) fun w5 xw5 sw5 => ?_
     go_wp2_with fail
     refine via (HL.out _ grows) fun w6 xw6 sw6 => ?_
     go_wp2_with fail
     go_ret
     exact ⟨ret_int (by rw [HE.out, if_pos HSY.out]; rfl), grows⟩
   ·have z1 : (bits BinOp.andNot IntKind.u32 c.v c.m != 0) = true := nT (fun e => hsy (hz.1 e))
    have HSY := Lh hsy
    clear hsy hz
    go_enter Tryz.func114, Tryz.ntmps114
    go_wp2_with fail
    refine Rel.region (W := ((W.alloc (.cells (Yq1 s a1 m1 P a2 m2 a3 m3 n3 a4 m4 n4 a5 m5 n5 ab ao m6 ss.length a7 m7 n7 a8 m8) 31)).alloc (.cells #[.int .u32 c.v, .int .u32 c.m, .int .i64 c.nx] 211))) (Rel.tab [(7, fun v _ => v = .int .i64 wd)]) (Rel.tab_lasts (by intro p hp v w w' hr hx; simp only [List.mem_cons, List.not_mem_nil, or_false] at hp; subst hp; exact hr)) (by kernel_rfl) (by kernel_rfl) (eR _) ?_
    refine Rel.chunk 7 rfl rfl rfl ?_
    simp only [tkS, tkZ, dpS, dpZ, Nat.reduceAdd]
    repeat (go_big_quiet_step (fail))
    refine wpQuiet_nil ?_
    refine Rel.callG _ rfl rfl rfl Tryz.func112 (by nofun) (by decide) #[.agg (Yq1 s a1 m1 P a2 m2 a3 m3 n3 a4 m4 n4 a5 m5 n5 ab ao m6 ss.length a7 m7 n7 a8 m8), .agg #[.int .i64 x.h, .int .i64 x.f]] rfl (fun w hx _ => by refine (HW.out w ((grows (a := W) (b := ((W.alloc (.cells (Yq1 s a1 m1 P a2 m2 a3 m3 n3 a4 m4 n4 a5 m5 n5 ab ao m6 ss.length a7 m7 n7 a8 m8) 31)).alloc (.cells #[.int .u32 c.v, .int .u32 c.m, .int .i64 c.nx] 211)))).trans hx)).mono ?_; rintro e w9 ⟨he, hx9⟩; exact ⟨_, he, hx9, rfl⟩) ?_
    intro v7 wq7 _ _ r7
    subst r7
    simp only [Act.put, stA, stS, stZ]
    refine Rel.chunk 1 rfl rfl rfl ?_
    simp only [tkS, tkZ, dpS, dpZ, Nat.reduceAdd]
    repeat (go_big_quiet_step (fail))
    refine wpQuiet_nil ?_
    refine Rel.fin ?_
    intro w3 x3 _
    have s3 := Sm x3
    go_wp2_with fail
    refine via (HFV.out _) fun w4 xw4 sw4 => ?_
    go_wp2_with fail
    refine via (HFM.out _) fun w5 xw5 sw5 => ?_
    go_wp2_with fail
    go_ret
    exact ⟨ret_int (by rw [HE.out, if_neg HSY.out]; rfl), grows⟩
namespace Ps
theorem stE_lim {P : Pg.Prog} {n s : Nat} {x : St} (h : 4 < x.ex.length ∨ 8 < x.cs.length) : stE P n s x = (-1, 12) := by
 unfold stE; rw [if_pos (by simpa using h)]
theorem stE_lim' {P : Pg.Prog} {n s : Nat} {x : St} (h1 : ¬ 4 < x.ex.length) (h2 : ¬ 8 < x.cs.length) : stE P n s x = if !(exB P.hs.length x.ex) then (-1, 8) else
 if x.sel && (Pg.wid P x.h x.f == 0) then (-1, 8) else
 if !x.sel && decide (0 < x.cs.length) then (-1, 11) else
 if (csE (Pg.wid P x.h x.f) n s x.cs).2 = 0 then (if leads n s x.df then (0, 0) else (-1, 14)) else csE (Pg.wid P x.h x.f) n s x.cs := by
 unfold stE; rw [if_neg (by simpa using ⟨Nat.not_lt.1 h1, Nat.not_lt.1 h2⟩)]
theorem exB_no {n : Nat} {ex : List Int} {k : Nat} {y : Int} (hk : ex[k]? = some y) (h : y < 0 ∨ (n : Int) ≤ y) : exB n ex = false := by
 refine Pg.all_no (List.getElem?_eq_some_iff.1 hk).1 ?_
 rw [List.getD_eq_getElem?_getD, hk]
 show (decide (0 ≤ y) && decide (y < n)) = false
 rcases h with h | h
 ·rw [dF (by omega)]; rfl
 ·rw [dF (p := y < n) (by omega), Bool.and_false]
theorem exB_yes {n : Nat} {ex : List Int} (h : ∀ j, j < ex.length → (decide (0 ≤ ex.getD j 0) && decide (ex.getD j 0 < n)) = true) : exB n ex = true := Pg.all_yes h
end Ps
theorem cstate_any {W : World} {p : Pg.PV} {P : Pg.Prog} {ss : List Ps.St} (hq : Ps.IsQ W p P ss) (k : Nat) (x : Ps.St) (hk : ss[k]? = some x) : Calls Tryz.prog 78 #[p.val, .int .i64 k] W (Rets W (.tuple #[.int .i64 (Ps.stE P ss.length k x).1, .int .i64 (Ps.stE P ss.length k x).2])) := by
 obtain ⟨s, a1, a2, a3, a4, a5, a6, a7, a8, m1, m2, n3, m3, n4, m4, n5, m5, n6, m6, n7, m7, m8, hf⟩ := hq.1.form
 obtain ⟨rfl, hhs, hmd, _, hl1, hl2, _⟩ := hf
 have hss := hq.2
 dsimp only at hss
 obtain ⟨a6', m6', e6, hl6, hc6⟩ := hss.slice
 simp only [Value.slice.injEq] at e6
 obtain ⟨rfl, rfl, rfl⟩ := e6
 unfold maxLen at hc6
 obtain ⟨ab, ao, rfl, _, _⟩ := hss.at (by have := (List.getElem?_eq_some_iff.1 hk).1; omega)
 have hkl : k < ss.length := (List.getElem?_eq_some_iff.1 hk).1
 obtain ⟨ea, ec, ca, cc, hnm, hex, hcs, hcl, hcm, g0, g1, g2, g3, g4, g5, g6⟩ := st_at hss k x hk rfl
 obtain ⟨wd, hwd⟩ : ∃ z, z = Pg.wid P x.h x.f := ⟨_, rfl⟩
 have HWD : Hid (Pg.wid P x.h x.f = wd) := Lh hwd.symm
 obtain ⟨lb, hlb⟩ : ∃ z, z = Ps.leads ss.length k x.df := ⟨_, rfl⟩
 have HW : Hid (∀ w, Ext W w → Calls Tryz.prog 112 #[.agg (Yq1 s a1 m1 P a2 m2 a3 m3 n3 a4 m4 n4 a5 m5 n5 ab ao m6 ss.length a7 m7 n7 a8 m8), .agg #[.int .i64 x.h, .int .i64 x.f]] w (Rets w (.int .i64 wd))) := Lh (fun w hx => by have h := width_any (hq.1.ext hx) x.h x.f; rw [← hwd] at h; exact h)
 have HLD : Hid (∀ w, Ext W w → Calls Tryz.prog 115 #[.agg (Yq1 s a1 m1 P a2 m2 a3 m3 n3 a4 m4 n4 a5 m5 n5 ab ao m6 ss.length a7 m7 n7 a8 m8), .int .i64 k, .int .i64 x.df] w (Rets w (.bool lb))) := Lh (fun w hx => by have h := leads_any (hq.ext hx) k x.df; rw [← hlb] at h; exact h)
 obtain ⟨R, hR⟩ : ∃ z, z = Ps.stE P ss.length k x := ⟨_, rfl⟩
 rw [← hR]
 have HQ := Lh hq
 have HK := Lh hk
 have HCS := Lh hcs
 have HLB := Lh hlb
 have y0 := alw g0
 have y1 := alw g1
 have y2 := alw g2
 have y3 := alw g3
 have y4 := alw g4
 have y5 := alw g5
 have y6 := alw g6
 have bx := aH W (.cells (Yq1 s a1 m1 P a2 m2 a3 m3 n3 a4 m4 n4 a5 m5 n5 ab ao m6 ss.length a7 m7 n7 a8 m8) 31)
 have pc0 := alw (cQ 0 bx)
 have pc1 := alw (cQ 1 bx)
 have pc2 := alw (cQ 2 bx)
 have pc3 := alw (cQ 3 bx)
 have pc4 := alw (cQ 4 bx)
 have pc5 := alw (cQ 5 bx)
 have pc6 := alw (cQ 6 bx)
 have pc7 := alw (cQ 7 bx)
 have pc8 := alw (cQ 8 bx)
 clear bx
 have bx := aH (W.alloc (.cells (Yq1 s a1 m1 P a2 m2 a3 m3 n3 a4 m4 n4 a5 m5 n5 ab ao m6 ss.length a7 m7 n7 a8 m8) 31)) (.cells #[.string x.nm, .slice ea x.ex.length ec, .bool x.sel, .int .i64 x.h, .int .i64 x.f, .slice ca x.cs.length cc, .int .i64 x.df] 99)
 rw [szA] at bx
 have xc0 := alw (cQ 0 bx)
 have xc1 := alw (cQ 1 bx)
 have xc2 := alw (cQ 2 bx)
 have xc3 := alw (cQ 3 bx)
 have xc4 := alw (cQ 4 bx)
 have xc5 := alw (cQ 5 bx)
 have xc6 := alw (cQ 6 bx)
 clear bx
 have hexm := hex.2
 unfold maxLen at hcm hexm
 have HEX := Lh hex
 dsimp only [Pg.PV.val]
 clear hq hhs hmd hss hk hex hcs hnm g0 g1 g2 g3 g4 g5 g6 hwd hlb
 by_cases h1 : 4 < x.ex.length
 ·have HR := Lh (hR.trans (Ps.stE_lim (.inl h1)))
  have d1 : decide ((4 : Int) < (x.ex.length : Int)) = true := dTt (by omega)
  clear hR
  go_enter Tryz.func78, Tryz.ntmps78
  go_wp2_with fail
  go_ret2
  exact ⟨ret_two (by rw [HR.out]), grows⟩
 ·have d1 : decide ((4 : Int) < (x.ex.length : Int)) = false := dF (by omega)
  by_cases h2 : 8 < x.cs.length
  ·have HR := Lh (hR.trans (Ps.stE_lim (.inr h2)))
   have d2 : decide ((8 : Int) < (x.cs.length : Int)) = true := dTt (by omega)
   clear hR
   go_enter Tryz.func78, Tryz.ntmps78
   go_wp2_with fail
   go_ret2
   exact ⟨ret_two (by rw [HR.out]), grows⟩
  ·have d2 : decide ((8 : Int) < (x.cs.length : Int)) = false := dF (by omega)
   have HR0 := Lh (hR.trans (Ps.stE_lim' h1 h2))
   clear hR
   go_enter Tryz.func78, Tryz.ntmps78
   go_wp2_with fail
   go_loopw [30] (fun q wr => ∃ i : Nat, i ≤ x.ex.length ∧ q = .int .i64 i ∧ Ext (((W.alloc (.cells (Yq1 s a1 m1 P a2 m2 a3 m3 n3 a4 m4 n4 a5 m5 n5 ab ao m6 ss.length a7 m7 n7 a8 m8) 31))).alloc (.cells #[.string x.nm, .slice ea x.ex.length ec, .bool x.sel, .int .i64 x.h, .int .i64 x.f, .slice ca x.cs.length cc, .int .i64 x.df] 99)) wr ∧ Hid (∀ j, j < i → (decide (0 ≤ x.ex.getD j 0) && decide (x.ex.getD j 0 < P.hs.length)) = true)) (fun q _ => x.ex.length - (intOf q).toNat)
   case atStart => exact ⟨0, Nat.zero_le _, rfl, eR _, Lh (by intro j hj; omega)⟩
   case round =>
    obtain ⟨i, hi, rfl, hx, HZ⟩ := hrel
    have sx := Sm hx
    by_cases hlt : i < x.ex.length
    ·obtain ⟨y, hy⟩ : ∃ y, x.ex[i]? = some y := ⟨_, gE (by omega)⟩
     obtain ⟨eb, eo, rfl, n1⟩ := ns_at HEX.out (by omega)
     have r1 := n1 i y hy
     have HY := Lh hy
     clear n1 hy
     by_cases hy0 : y < 0
     ·have e1 : decide (y < 0) = true := dTt hy0
      have HR : Hid (R = (-1, 8)) := Lh (by rw [HR0.out, Ps.exB_no HY.out (.inl hy0)]; rfl)
      go_wp2_with fail
      go_ret2
      exact ⟨ret_two (by rw [HR.out]), grows⟩
     ·have e1 : decide (y < 0) = false := dF hy0
      by_cases hyn : (P.hs.length : Int) ≤ y
      ·have e2 : decide ((P.hs.length : Int) ≤ y) = true := dTt hyn
       have HR : Hid (R = (-1, 8)) := Lh (by rw [HR0.out, Ps.exB_no HY.out (.inr hyn)]; rfl)
       go_wp2_with fail
       go_ret2
       exact ⟨ret_two (by rw [HR.out]), grows⟩
      ·have e2 : decide ((P.hs.length : Int) ≤ y) = false := dF hyn
       go_wp2_with fail
       go_roundw
       case rel =>
        refine ⟨i + 1, by omega, by go_num, by exact hx, Lh (fun j hj => ?_)⟩
        rcases Nat.lt_or_ge j i with h1 | h1
        ·exact HZ.out j h1
        ·obtain rfl : j = i := by omega
         rw [List.getD_eq_getElem?_getD, HY.out]
         show (decide (0 ≤ y) && decide (y < P.hs.length)) = true
         rw [dTt (by omega), dTt (by omega)]; rfl
       case measure => simp [intOf]; omega
    ·obtain rfl : i = x.ex.length := by omega
     have HYES : Hid (Ps.exB P.hs.length x.ex = true) := Lh (Ps.exB_yes HZ.out)
     cases hsl : x.sel with
     | true =>
      by_cases hw0 : wd = 0
      ·subst hw0
       have HR : Hid (R = (-1, 8)) := Lh (by rw [HR0.out, HYES.out, hsl, HWD.out]; rfl)
       go_wp2_with fail
       refine via (HW.out _ grows) fun w4 xw4 sw4 => ?_
       go_wp2_with fail
       go_ret2
       exact ⟨ret_two (by rw [HR.out]), grows⟩
      ·have w0 : (wd == 0) = false := bF hw0
       have HR : Hid (R = if (Ps.csE wd ss.length k x.cs).2 = 0 then (if lb then (0, 0) else (-1, 14)) else Ps.csE wd ss.length k x.cs) := Lh (by rw [HR0.out, HYES.out, hsl, HWD.out, w0, HLB.out]; rfl)
       go_wp2_with fail
       refine via (HW.out _ grows) fun w4 xw4 sw4 => ?_
       go_wp2_with fail
       go_loopw [67] (fun q wr => ∃ i : Nat, i ≤ x.cs.length ∧ q = .int .i64 i ∧ Ext w4 wr ∧ Hid (∀ j, j < i → Ps.caseE wd ss.length k (x.cs.getD j Ps.c0) = 0)) (fun q _ => x.cs.length - (intOf q).toNat)
       case atStart => exact ⟨0, Nat.zero_le _, rfl, grows, Lh (by intro j hj; omega)⟩
       case round =>
        obtain ⟨i, hi, rfl, hx, HZ⟩ := hrel
        have sx := Sm hx
        by_cases hlt : i < x.cs.length
        ·obtain ⟨⟨c1, c2, c3⟩, hci⟩ : ∃ c, x.cs[i]? = some c := ⟨_, gE (by omega)⟩
         obtain ⟨cb, co, rfl, _, _⟩ := Rows.at HCS.out (by omega)
         obtain ⟨hv, hm, u0, u1, u2⟩ := case_at HCS.out i _ hci rfl
         have t0 := alw u0
         have t1 := alw u1
         have t2 := alw u2
         have HGC := Lh (show x.cs.getD i Ps.c0 = ⟨c1, c2, c3⟩ by rw [List.getD_eq_getElem?_getD, hci]; rfl)
         dsimp only at hv hm t0 t1 t2
         clear u0 u1 u2 hci
         obtain ⟨ce, hce⟩ : ∃ z, z = Ps.caseE wd ss.length k ⟨c1, c2, c3⟩ := ⟨_, rfl⟩
         have HCC : Hid (∀ w, Ext W w → Calls Tryz.prog 114 #[.agg (Yq1 s a1 m1 P a2 m2 a3 m3 n3 a4 m4 n4 a5 m5 n5 ab ao m6 ss.length a7 m7 n7 a8 m8), .int .i64 k, .agg #[.int .u32 c1, .int .u32 c2, .int .i64 c3]] w (Rets w (.int .i64 ce))) := Lh (fun w hx => by have h := ccase_any (HQ.out.ext hx) k x HK.out ⟨c1, c2, c3⟩ hv hm; rw [HWD.out, ← hce] at h; exact h)
         have HE : Hid (Ps.caseE wd ss.length k (x.cs.getD i Ps.c0) = ce) := Lh (by rw [HGC.out, hce])
         have bx := aH wr (.cells #[.int .u32 c1, .int .u32 c2, .int .i64 c3] 211)
         have dc0 := alw (cQ 0 bx)
         have dc1 := alw (cQ 1 bx)
         have dc2 := alw (cQ 2 bx)
         clear bx
         clear hce hv hm HGC
         by_cases hc0 : ce = 0
         ·subst hc0
          go_wp2_with fail
          refine via (HCC.out _ grows) fun w5 xw5 sw5 => ?_
          go_wp2_with fail
          go_roundw
          case rel =>
           refine ⟨i + 1, by omega, by go_num, grows, Lh (fun j hj => ?_)⟩
           rcases Nat.lt_or_ge j i with h1 | h1
           ·exact HZ.out j h1
           ·obtain rfl : j = i := by omega
            exact HE.out
          case measure => simp [intOf]; omega
         ·have z1 : (ce != 0) = true := nT hc0
          have HC0 := Lh hc0
          clear hc0
          go_wp2_with fail
          refine via (HCC.out _ grows) fun w5 xw5 sw5 => ?_
          go_wp2_with fail
          go_ret2
          exact ⟨ret_two (by rw [HR.out, Ps.csE_some hlt HZ.out (by rw [HE.out]; exact HC0.out), HE.out, if_neg HC0.out]), grows⟩
        ·obtain rfl : i = x.cs.length := by omega
         have HN : Hid (R = if lb then (0, 0) else (-1, 14)) := Lh (by rw [HR.out, Ps.csE_none HZ.out, if_pos rfl])
         cases lb with
         | false =>
          go_wp2_with fail
          refine via (HLD.out _ grows) fun w5 xw5 sw5 => ?_
          go_wp2_with fail
          go_ret2
          exact ⟨ret_two (by rw [HN.out]; rfl), grows⟩
         | true =>
          go_wp2_with fail
          refine via (HLD.out _ grows) fun w5 xw5 sw5 => ?_
          go_wp2_with fail
          go_ret2
          exact ⟨ret_two (by rw [HN.out]; rfl), grows⟩
     | false =>
      by_cases hc : 0 < x.cs.length
      ·have e3 : decide ((0 : Int) < (x.cs.length : Int)) = true := dTt (by omega)
       have HR : Hid (R = (-1, 11)) := Lh (by rw [HR0.out, HYES.out, hsl, dTt hc]; rfl)
       go_wp2_with fail
       go_ret2
       exact ⟨ret_two (by rw [HR.out]), grows⟩
      ·have e3 : decide ((0 : Int) < (x.cs.length : Int)) = false := dF (by omega)
       have HR : Hid (R = if (Ps.csE wd ss.length k x.cs).2 = 0 then (if lb then (0, 0) else (-1, 14)) else Ps.csE wd ss.length k x.cs) := Lh (by rw [HR0.out, HYES.out, hsl, HWD.out, dF hc, HLB.out]; rfl)
       go_wp2_with fail
       go_loopw [67] (fun q wr => ∃ i : Nat, i ≤ x.cs.length ∧ q = .int .i64 i ∧ Ext (((W.alloc (.cells (Yq1 s a1 m1 P a2 m2 a3 m3 n3 a4 m4 n4 a5 m5 n5 ab ao m6 ss.length a7 m7 n7 a8 m8) 31))).alloc (.cells #[.string x.nm, .slice ea x.ex.length ec, .bool x.sel, .int .i64 x.h, .int .i64 x.f, .slice ca x.cs.length cc, .int .i64 x.df] 99)) wr ∧ Hid (∀ j, j < i → Ps.caseE wd ss.length k (x.cs.getD j Ps.c0) = 0)) (fun q _ => x.cs.length - (intOf q).toNat)
       case atStart => exact ⟨0, Nat.zero_le _, rfl, grows, Lh (by intro j hj; omega)⟩
       case round =>
        obtain ⟨i, hi, rfl, hx, HZ⟩ := hrel
        have sx := Sm hx
        by_cases hlt : i < x.cs.length
        ·exact absurd hlt (by omega)
        ·obtain rfl : i = x.cs.length := by omega
         have HN : Hid (R = if lb then (0, 0) else (-1, 14)) := Lh (by rw [HR.out, Ps.csE_none HZ.out, if_pos rfl])
         cases lb with
         | false =>
          go_wp2_with fail
          refine via (HLD.out _ grows) fun w5 xw5 sw5 => ?_
          go_wp2_with fail
          go_ret2
          exact ⟨ret_two (by rw [HN.out]; rfl), grows⟩
         | true =>
          go_wp2_with fail
          refine via (HLD.out _ grows) fun w5 xw5 sw5 => ?_
          go_wp2_with fail
          go_ret2
          exact ⟨ret_two (by rw [HN.out]; rfl), grows⟩
open Go.Maps
open Go.WideMaps (keyOf_string_mk)
theorem ext_map {H : Type} {P : Program} {k : TypeId} {R : Value → Option (DataW H × List MemPlace)} {w w' : World} {b n : Nat} {D : DataW H} (h : w.ownsMap P k R b n D) (hx : Ext w w') : w'.ownsMap P k R b n D := by
 obtain ⟨es, clock, hb, F, hs, hD⟩ := h
 exact ⟨es, clock, hx.heap hb, F, hs, hD⟩
theorem lookup_bool {H : Type} {P : Program} {k t e : TypeId} {w : World} {b n : Nat} {D : DataW H} (h : w.ownsMap P k (plainElem P e) b n D) (K : Keyed P k) (ht : P.underlying t = some (.map k e)) (he : P.underlying e = some .bool) (hz : (zeroValue e).run P w = .ok (.bool false) w)
 {key : Value} {kl : Lit} (hkey : keyOf P k key = some kl) : ∃ c, (Instr.lookup t (.map (some b)) key false).run P w = .ok (.bool c) w ∧ D.atKey kl (.lit (.bool false)) = .lit (.bool c) := by
 obtain ⟨v, ps, hrun, hv⟩ := h.lookup K ht hz (plainElem_bool he false) hkey
 unfold plainElem at hv
 rw [he] at hv
 cases v <;> simp at hv
 obtain ⟨h1, h2⟩ := hv
 exact ⟨_, hrun, h1.symm⟩
theorem grown_map {w w' : World} {a : World} {B : Nat} (hx : Ext a w) (h : w.grownBy w' (some B)) (hB : a.heap.size ≤ B) : Ext a w' :=
 Ext.mod hx (S := fun k => some k = some B) (grown_mod h) (fun k hk => by simp only [Option.some.injEq] at hk; omega)
/-- the names of the first k states are in the map at B -/
def NamesM (w : World) (B : Nat) (ss : List Ps.St) (k : Nat) : Prop := ∃ D : DataW Unit, w.ownsMap Tryz.prog 9 (plainElem Tryz.prog 4) B k D ∧ ∀ s : ByteArray, s.size ≤ maxLen → D.atKey (.string s.data.toList) (.lit (.bool false)) = .lit (.bool ((ss.take k).any fun y => Hd.same y.nm s))
theorem str_law : Keyed Tryz.prog 9 := string_keyed Tryz.underlying9
theorem zero_b (w : World) : (zeroValue 4).run Tryz.prog w = .ok (.bool false) w := by kernel_rfl
theorem NamesM.ext {w w' : World} {B k : Nat} {ss : List Ps.St} (h : NamesM w B ss k) (hx : Ext w w') : NamesM w' B ss k := by
 obtain ⟨D, h1, h2⟩ := h; exact ⟨D, ext_map h1 hx, h2⟩
theorem NamesM.look {w : World} {B k : Nat} {ss : List Ps.St} (h : NamesM w B ss k) {s : ByteArray} (hs : s.size ≤ maxLen) : (Instr.lookup 171 (.map (some B)) (.string s) false).run Tryz.prog w = .ok (.bool ((ss.take k).any fun y => Hd.same y.nm s)) w := by
 obtain ⟨D, h1, h2⟩ := h
 obtain ⟨c, hr, hc⟩ := lookup_bool h1 str_law Tryz.underlying171 Tryz.underlying4 (zero_b w) (keyOf_string_mk Tryz.underlying9 hs)
 rw [h2 s hs] at hc
 simp only [DataW.lit.injEq, Lit.bool.injEq] at hc
 rw [hr, hc]
theorem NamesM.put {w' : World} {B k : Nat} {ss : List Ps.St} {D : DataW Unit} {x : Ps.St} (hx : ss[k]? = some x) (hn : x.nm.size ≤ maxLen) (h2 : ∀ s : ByteArray, s.size ≤ maxLen → D.atKey (.string s.data.toList) (.lit (.bool false)) = .lit (.bool ((ss.take k).any fun y => Hd.same y.nm s))) (hD : IsMap D)
 (h : w'.ownsMap Tryz.prog 9 (plainElem Tryz.prog 4) B (k + 1) (D.put (.string x.nm.data.toList) (.lit (.bool true)))) : NamesM w' B ss (k + 1) := by
 refine ⟨_, h, fun s hs => ?_⟩
 have ht : ss.take (k + 1) = ss.take k ++ [x] := by rw [List.take_add_one, hx]; rfl
 rw [ht, List.any_append]
 by_cases e : s = x.nm
 ·subst e
  rw [atKey_put_same hD (str_law.key (keyOf_string_mk Tryz.underlying9 hn))]
  simp [Hd.same_self]
 ·have hne : (Lit.string s.data.toList) ≠ .string x.nm.data.toList := fun h => e (by
   simp only [Lit.string.injEq] at h
   cases s; cases hh : x.nm
   rw [hh] at h
   congr 1
   exact Array.ext' h)
  rw [atKey_put_other hne, h2 s hs]
  have : Hd.same x.nm s = false := by rw [← Bool.not_eq_true, Hd.same_iff]; exact fun h => e h.symm
  simp [this]
theorem NamesM.new (w : World) (ss : List Ps.St) : NamesM (w.alloc (.map #[] 0)) w.heap.size ss 0 :=
 ⟨.map [], World.ownsMap_made _ _ _ _, fun s _ => by simp; rfl⟩
theorem ret_three {R : Int × Int × Int} {a b c : Int} (h : R = (a, b, c)) : Ending.returned (.tuple #[.int .i64 a, .int .i64 b, .int .i64 c]) = .returned (.tuple #[.int .i64 R.1, .int .i64 R.2.1, .int .i64 R.2.2]) := by rw [h]
namespace Ps
theorem chk_bad {P : Pg.Prog} {ss : List St} {k : Nat} (h1 : ss.length ≠ 0) (h2 : ¬ 12 < ss.length) (hk : k < ss.length) (hz : ∀ j, j < k → (allE P ss j).2 = 0) (hp : (allE P ss k).2 ≠ 0) : chk P ss = ((k : Int), (allE P ss k).1, (allE P ss k).2) := by
 unfold chk; rw [if_neg h1, if_neg h2, fb_some hk hz hp]
theorem chk_good {P : Pg.Prog} {ss : List St} (h1 : ss.length ≠ 0) (h2 : ¬ 12 < ss.length) (hz : ∀ j, j < ss.length → (allE P ss j).2 = 0) : chk P ss = (0, 0, 0) := by
 unfold chk; rw [if_neg h1, if_neg h2, fb_none hz]
theorem allE_name {P : Pg.Prog} {ss : List St} {k : Nat} {x : St} (hx : ss[k]? = some x) (h : Id.ok x.nm = false) : allE P ss k = (-1, 6) := by
 unfold allE; rw [List.getD_eq_getElem?_getD, hx]; show (if (!Id.ok x.nm) = true then _ else _) = _; rw [h]; rfl
theorem allE_dup {P : Pg.Prog} {ss : List St} {k : Nat} {x : St} (hx : ss[k]? = some x) (h : Id.ok x.nm = true) (hd : ((ss.take k).any fun y => Hd.same y.nm x.nm) = true) : allE P ss k = (-1, 7) := by
 unfold allE dup; rw [List.getD_eq_getElem?_getD, hx]; show (if (!Id.ok x.nm) = true then _ else if ((ss.take k).any fun y => Hd.same y.nm x.nm) = true then _ else _) = _; rw [h, hd]; rfl
theorem allE_st {P : Pg.Prog} {ss : List St} {k : Nat} {x : St} (hx : ss[k]? = some x) (h : Id.ok x.nm = true) (hd : ((ss.take k).any fun y => Hd.same y.nm x.nm) = false) : allE P ss k = stE P ss.length k x := by
 unfold allE dup; rw [List.getD_eq_getElem?_getD, hx]; show (if (!Id.ok x.nm) = true then _ else if ((ss.take k).any fun y => Hd.same y.nm x.nm) = true then _ else stE P ss.length k x) = _; rw [h, hd]; rfl
end Ps
theorem pcheck_any {W : World} {p : Pg.PV} {P : Pg.Prog} {ss : List Ps.St} (hq : Ps.IsQ W p P ss) : Calls Tryz.prog 53 #[p.val] W (Rets W (.tuple #[.int .i64 (Ps.chk P ss).1, .int .i64 (Ps.chk P ss).2.1, .int .i64 (Ps.chk P ss).2.2])) := by
 obtain ⟨s, a1, a2, a3, a4, a5, a6, a7, a8, m1, m2, n3, m3, n4, m4, n5, m5, n6, m6, n7, m7, m8, hf⟩ := hq.1.form
 obtain ⟨rfl, hhs, hmd, _, hl1, hl2, _⟩ := hf
 have hss := hq.2
 dsimp only at hss
 obtain ⟨a6', m6', e6, hl6, hc6⟩ := hss.slice
 simp only [Value.slice.injEq] at e6
 obtain ⟨rfl, rfl, rfl⟩ := e6
 unfold maxLen at hc6
 obtain ⟨R, hR⟩ : ∃ z, z = Ps.chk P ss := ⟨_, rfl⟩
 rw [← hR]
 have HQ := Lh hq
 have HSS := Lh hss
 have bx := aH W (.cells #[.string s, .slice a1 P.hs.length m1, .slice a2 P.md.length m2, .slice a3 n3 m3, .slice a4 n4 m4, .slice a5 n5 m5, .slice a6 ss.length m6, .slice a7 n7 m7, .slice a8 P.dp.length m8] 31)
 have pc0 := alw (cQ 0 bx)
 have pc1 := alw (cQ 1 bx)
 have pc2 := alw (cQ 2 bx)
 have pc3 := alw (cQ 3 bx)
 have pc4 := alw (cQ 4 bx)
 have pc5 := alw (cQ 5 bx)
 have pc6 := alw (cQ 6 bx)
 have pc7 := alw (cQ 7 bx)
 have pc8 := alw (cQ 8 bx)
 clear bx
 dsimp only [Pg.PV.val]
 clear hq hhs hmd hss
 by_cases h0 : ss.length = 0
 ·have HR : Hid (R = (-1, -1, 8)) := Lh (by rw [hR]; unfold Ps.chk; rw [if_pos h0])
  have e0 : ((ss.length : Int) == 0) = true := bT (by omega)
  clear hR
  go_enter Tryz.func53, Tryz.ntmps53
  go_wp2_with fail
  go_ret3
  exact ⟨ret_three (by rw [HR.out]), grows⟩
 ·have e0 : ((ss.length : Int) == 0) = false := bF (by omega)
  by_cases h12 : 12 < ss.length
  ·have HR : Hid (R = (-1, -1, 12)) := Lh (by rw [hR]; unfold Ps.chk; rw [if_neg h0, if_pos h12])
   have e1 : decide ((12 : Int) < (ss.length : Int)) = true := dTt (by omega)
   clear hR
   go_enter Tryz.func53, Tryz.ntmps53
   go_wp2_with fail
   go_ret3
   exact ⟨ret_three (by rw [HR.out]), grows⟩
  ·have e1 : decide ((12 : Int) < (ss.length : Int)) = false := dF (by omega)
   have HR := Lh hR
   have HH0 := Lh h0
   have HH12 := Lh h12
   have hmm := @run_makeMap Tryz.prog
   clear hR h0
   go_enter Tryz.func53, Tryz.ntmps53
   go_wp2_with fail
   go_loopw [24] (fun q wr => ∃ i : Nat, i ≤ ss.length ∧ q = .int .i64 i ∧ Hid (NamesM wr (W.heap.size + 1) ss i ∧ Ext (W.alloc (.cells #[.string s, .slice a1 P.hs.length m1, .slice a2 P.md.length m2, .slice a3 n3 m3, .slice a4 n4 m4, .slice a5 n5 m5, .slice a6 ss.length m6, .slice a7 n7 m7, .slice a8 P.dp.length m8] 31)) wr ∧ ∀ j, j < i → (Ps.allE P ss j).2 = 0)) (fun q _ => ss.length - (intOf q).toNat)
   case atStart => exact ⟨0, Nat.zero_le _, rfl, Lh ⟨by have h := NamesM.new (W.alloc (.cells #[.string s, .slice a1 P.hs.length m1, .slice a2 P.md.length m2, .slice a3 n3 m3, .slice a4 n4 m4, .slice a5 n5 m5, .slice a6 ss.length m6, .slice a7 n7 m7, .slice a8 P.dp.length m8] 31)) ss; rw [szA] at h; exact h, (eR _).alloc _, by intro j hj; omega⟩⟩
   case round =>
    clear hmm
    obtain ⟨i, hi, rfl, HI⟩ := hrel
    obtain ⟨hnm, hx, hz⟩ := HI.out
    have sx := Sm hx
    have HZ := Lh hz
    have HN := Lh hnm
    clear hx hz HI hnm
    by_cases hlt : i < ss.length
    ·obtain ⟨x, hk⟩ : ∃ x, ss[i]? = some x := ⟨_, gE (by omega)⟩
     obtain ⟨ab, ao, rfl, _, _⟩ := HSS.out.at (by omega)
     obtain ⟨ea, ec, ca, cc, hnm, hex, hcs, hcl, hcm, g0, g1, g2, g3, g4, g5, g6⟩ := st_at HSS.out i x hk rfl
     have HK := Lh hk
     have HM := Lh hnm
     have y0 := alw g0
     have y1 := alw g1
     have y2 := alw g2
     have y3 := alw g3
     have y4 := alw g4
     have y5 := alw g5
     have y6 := alw g6
     have bx := aH wr (.cells #[.string x.nm, .slice ea x.ex.length ec, .bool x.sel, .int .i64 x.h, .int .i64 x.f, .slice ca x.cs.length cc, .int .i64 x.df] 99)
     have dc0 := alw (cQ 0 bx)
     have dc1 := alw (cQ 1 bx)
     have dc2 := alw (cQ 2 bx)
     have dc3 := alw (cQ 3 bx)
     have dc4 := alw (cQ 4 bx)
     have dc5 := alw (cQ 5 bx)
     have dc6 := alw (cQ 6 bx)
     clear bx
     obtain ⟨id, hid⟩ : ∃ z, z = Id.ok x.nm := ⟨_, rfl⟩
     have HID : Hid (∀ w, Calls Tryz.prog 68 #[.string x.nm] w (Rets w (.bool id))) := Lh (fun w => by have h := ident_any x.nm w hnm; rw [← hid] at h; exact Rets.of_eq h)
     have HI2 := Lh hid
     clear hk hex hcs hcl hcm g0 g1 g2 g3 g4 g5 g6 hid hnm
     cases id with
     | false =>
      have HE : Hid (Ps.allE P ss i = (-1, 6)) := Lh (Ps.allE_name HK.out HI2.out.symm)
      go_wp2_with fail
      refine via (HID.out _) fun w5 xw5 sw5 => ?_
      go_wp2_with fail
      go_ret3
      exact ⟨ret_three (by rw [HR.out, Ps.chk_bad HH0.out HH12.out hlt HZ.out (by rw [HE.out]; decide), HE.out]), grows⟩
     | true =>
      obtain ⟨dp, hdp⟩ : ∃ z, z = ((ss.take i).any fun y => Hd.same y.nm x.nm) := ⟨_, rfl⟩
      have HDP := Lh hdp
      clear hdp
      go_wp2_with fail
      refine via (HID.out _) fun w5 x5 s5 => ?_
      have hlook := ((HN.out.ext (grows (a := wr) (b := w5))).look HM.out)
      rw [← HDP.out] at hlook
      cases dp with
      | true =>
       have HE : Hid (Ps.allE P ss i = (-1, 7)) := Lh (Ps.allE_dup HK.out HI2.out.symm HDP.out.symm)
       go_wp2_with fail
       go_ret3
       exact ⟨ret_three (by rw [HR.out, Ps.chk_bad HH0.out HH12.out hlt HZ.out (by rw [HE.out]; decide), HE.out]), grows⟩
      | false =>
       have HE : Hid (Ps.allE P ss i = Ps.stE P ss.length i x) := Lh (Ps.allE_st HK.out HI2.out.symm HDP.out.symm)
       obtain ⟨⟨S1, S2⟩, hS⟩ : ∃ z, z = Ps.stE P ss.length i x := ⟨_, rfl⟩
       have HC : Hid (∀ w, Ext W w → Calls Tryz.prog 78 #[.agg (Yq1 s a1 m1 P a2 m2 a3 m3 n3 a4 m4 n4 a5 m5 n5 ab ao m6 ss.length a7 m7 n7 a8 m8), .int .i64 i] w (Rets w (.tuple #[.int .i64 S1, .int .i64 S2]))) := Lh (fun w hx => by have h := cstate_any (HQ.out.ext hx) i x HK.out; rw [← hS] at h; exact h)
       have HSX := Lh hS
       obtain ⟨D, hD⟩ := HN.out.ext (grows (a := wr) (b := w5))
       have HD2 := Lh hD.2
       have hown := hD.1
       have hkey : keyOf Tryz.prog 9 (.string x.nm) = some (.string x.nm.data.toList) := keyOf_string_mk Tryz.underlying9 HM.out
       have HDM : Hid (IsMap D) := Lh (by obtain ⟨es, clock, _, _, _, e⟩ := hown; exact ⟨_, e⟩)
       have HKY := Lh hkey
       have HOW := Lh hown
       clear hS hD hown hkey
       go_wp2_with (first | (at_mapUpdate; refine wpList_mapUpdate_own _ rfl _ _ _ 171 rfl 9 4 str_law Tryz.underlying171 _ (W.heap.size + 1) i _ rfl HOW.out (by unfold maxLen; omega) _ _ _ rfl rfl HKY.out _ [] (plainElem_bool Tryz.underlying4 true) ?_) | fail)
       intro w6 hown6 hg6
       have hx6 : Ext (W.alloc (.cells (Yq1 s a1 m1 P a2 m2 a3 m3 n3 a4 m4 n4 a5 m5 n5 ab ao m6 ss.length a7 m7 n7 a8 m8) 31)) w6 := grown_map (grows (a := (W.alloc (.cells (Yq1 s a1 m1 P a2 m2 a3 m3 n3 a4 m4 n4 a5 m5 n5 ab ao m6 ss.length a7 m7 n7 a8 m8) 31))) (b := w5)) hg6 (by rw [szA]; omega)
       have s6 : Step (W.alloc (.cells (Yq1 s a1 m1 P a2 m2 a3 m3 n3 a4 m4 n4 a5 m5 n5 ab ao m6 ss.length a7 m7 n7 a8 m8) 31)) w6 := Sm hx6
       have HN6 : Hid (NamesM w6 (W.heap.size + 1) ss (i + 1)) := Lh (NamesM.put HK.out HM.out HD2.out HDM.out hown6)
       clear hown6 hg6 hx6 hlook
       by_cases hs0 : S2 = 0
       ·subst hs0
        have HE0 : Hid ((Ps.allE P ss i).2 = 0) := Lh (by rw [HE.out, ← HSX.out])
        go_wp2_with fail
        refine via (HC.out _ grows) fun w7 xw7 sw7 => ?_
        go_wp2_with fail
        go_roundw
        case rel =>
         refine ⟨i + 1, by omega, by go_num, Lh ⟨HN6.out.ext grows, grows, fun j hj => ?_⟩⟩
         rcases Nat.lt_or_ge j i with h1 | h1
         ·exact HZ.out j h1
         ·obtain rfl : j = i := by omega
          exact HE0.out
        case measure => simp [intOf]; omega
       ·have z1 : (S2 != 0) = true := nT hs0
        have HS0 := Lh hs0
        clear hs0
        go_wp2_with fail
        refine via (HC.out _ grows) fun w7 xw7 sw7 => ?_
        go_wp2_with fail
        go_ret3
        exact ⟨ret_three (by rw [HR.out, Ps.chk_bad HH0.out HH12.out hlt HZ.out (by rw [HE.out, ← HSX.out]; exact HS0.out), HE.out, ← HSX.out]), grows⟩
    ·obtain rfl : i = ss.length := by omega
     go_wp2_with fail
     go_ret3
     exact ⟨ret_three (by rw [HR.out, Ps.chk_good HH0.out HH12.out HZ.out]), grows⟩
namespace Dp
/-- the k-th of the list is no header (8), or stands in the list before (7) -/
def bad (P : Pg.Prog) (k : Nat) : Int := if P.dp.getD k 0 < 0 ∨ (P.hs.length : Int) ≤ P.dp.getD k 0 then 8 else if (P.dp.take k).any (· == P.dp.getD k 0) then 7 else 0
def chk (P : Pg.Prog) : Int × Int :=
 if 8 < P.dp.length then (-1, 12) else match (List.range P.dp.length).find? (fun k => bad P k != 0) with
  | some k => ((k : Int), bad P k)
  | none => (0, 0)
theorem chk_many {P : Pg.Prog} (h : 8 < P.dp.length) : chk P = (-1, 12) := by unfold chk; rw [if_pos h]
theorem chk_some {P : Pg.Prog} {k : Nat} {x : Int} (h : ¬ 8 < P.dp.length) (hk : k < P.dp.length) (h0 : ∀ j, j < k → bad P j = 0) (hb : bad P k = x) (hx : x ≠ 0) : chk P = ((k : Int), x) := by
 have hf : (List.range P.dp.length).find? (fun k => bad P k != 0) = some k := by
  rw [List.find?_range_eq_some]
  refine ⟨by simp [hb, hx], List.mem_range.2 hk, fun j hj => by simp [h0 j hj]⟩
 unfold chk; rw [if_neg h, hf]; simp [hb]
theorem chk_none {P : Pg.Prog} (h : ¬ 8 < P.dp.length) (h0 : ∀ j, j < P.dp.length → bad P j = 0) : chk P = (0, 0) := by
 have hf : (List.range P.dp.length).find? (fun k => bad P k != 0) = none := by
  rw [List.find?_range_eq_none]
  intro j hj; simp [h0 j hj]
 unfold chk; rw [if_neg h, hf]
theorem bad_idx {P : Pg.Prog} {k : Nat} {x : Int} (hk : P.dp[k]? = some x) (h : x < 0 ∨ (P.hs.length : Int) ≤ x) : bad P k = 8 := by
 unfold bad; rw [List.getD_eq_getElem?_getD, hk]; exact if_pos h
theorem bad_dup {P : Pg.Prog} {k : Nat} {x : Int} (hk : P.dp[k]? = some x) (h0 : 0 ≤ x) (h1 : x < P.hs.length) (h : (P.dp.take k).any (· == x) = true) : bad P k = 7 := by
 unfold bad; rw [List.getD_eq_getElem?_getD, hk]
 rw [if_neg (by simp; omega), if_pos (by simpa using h)]
theorem bad_no {P : Pg.Prog} {k : Nat} {x : Int} (hk : P.dp[k]? = some x) (h0 : 0 ≤ x) (h1 : x < P.hs.length) (h : (P.dp.take k).any (· == x) = false) : bad P k = 0 := by
 unfold bad; rw [List.getD_eq_getElem?_getD, hk]
 rw [if_neg (by simp; omega)]
 show (if (P.dp.take k).any (· == x) = true then (7 : Int) else 0) = 0
 rw [h]; rfl
theorem any_take_no {l : List Int} {k : Nat} {x : Int} (h : ∀ j, j < k → (l.getD j 0 == x) = false) (hk : k ≤ l.length) : (l.take k).any (· == x) = false := by
 rw [← Bool.not_eq_true, List.any_eq_true]
 rintro ⟨y, hy, he⟩
 obtain ⟨j, hj, rfl⟩ := List.mem_iff_getElem.1 hy
 have hjk : j < k := by simp at hj; omega
 have := h j hjk
 rw [List.getD_eq_getElem?_getD, gE (by omega)] at this
 simp at he this
 exact this he
theorem any_take_yes {l : List Int} {k j : Nat} {x : Int} (h : (l.getD j 0 == x) = true) (hj : j < k) (hk : k ≤ l.length) : (l.take k).any (· == x) = true := by
 rw [List.any_eq_true]
 refine ⟨l[j]'(by omega), ?_, ?_⟩
 ·exact List.mem_take_iff_getElem.2 ⟨j, by omega, rfl⟩
 ·rw [List.getD_eq_getElem?_getD, gE (by omega)] at h
  simpa using h
end Dp
/-- the front of a list -/
theorem ns_take {k : IntKind} {w : World} {oa : Option Addr} {n c j : Nat} {l : List Int} (h : Ns k w (.slice oa n c) l) (hj : j ≤ l.length) (hl : 0 < l.length) : Ns k w (.slice oa j c) (l.take j) := by
 obtain ⟨⟨h1, h2, h3⟩, h4⟩ := h
 have hlen : (l.take j).length = j := by rw [List.length_take]; omega
 refine ⟨⟨by simp, fun u hu => h2 u ?_, ?_⟩, by omega⟩
 ·rw [List.map_take] at hu; exact List.mem_of_mem_take hu
 ·rcases h3 with ⟨_, h0⟩ | ⟨ad, c', he, hc⟩
  ·omega
  ·simp only [Value.slice.injEq] at he
   obtain ⟨rfl, _, rfl⟩ := he
   refine .inr ⟨ad, c, by rw [hlen], fun i u hi => hc i u ?_⟩
   rw [List.map_take, List.getElem?_take] at hi
   split at hi
   ·exact hi
   ·cases hi
theorem indexI_any {W : World} {v : Value} {l : List Int} (x : Int) (h : Ns .i64 W v l) :
 Calls Tryz.prog 117 #[v, .int .i64 x] W fun e W' => (∃ r : Int, e = .returned (.int .i64 r) ∧ (decide (0 ≤ r) = l.any (· == x))) ∧ W = W' := by
 obtain ⟨oa, c, rfl⟩ := ns_slice h
 have hm := h.2
 unfold maxLen at hm
 have H := Lh h
 clear h
 go_enter Tryz.func117, Tryz.ntmps117
 go_wp2_with fail
 go_loop [8] (fun i => ∃ k : Nat, k ≤ l.length ∧ i = .int .i64 k ∧ Hid (∀ j, j < k → (l.getD j 0 == x) = false)) (fun i => l.length - (intOf i).toNat)
 case atStart => exact ⟨0, Nat.zero_le _, rfl, Lh (by intro j hj; omega)⟩
 case round =>
  obtain ⟨k, hk, rfl, HZ⟩ := hrel
  by_cases hlt : k < l.length
  ·obtain ⟨y, hy⟩ : ∃ x, l[k]? = some x := ⟨_, gE hlt⟩
   obtain ⟨b, o, rfl, hc⟩ := ns_at H.out (by omega)
   have f1 := hc k y hy
   have hg : l.getD k 0 = y := by rw [List.getD_eq_getElem?_getD, hy]; rfl
   have HG := Lh hg
   clear hc hy hg
   by_cases h0 : x = y
   ·have h0b : (x == y) = true := by simp [h0]
    have H0 := Lh h0
    clear h0
    go_wp2_with fail
    go_ret
    refine ⟨⟨_, rfl, ?_⟩, rfl⟩
    have hz : l.any (· == x) = true := by
     have := Dp.any_take_yes (l := l) (k := l.length) (j := k) (x := x) (by rw [HG.out, H0.out]; simp) hlt (Nat.le_refl _)
     rwa [List.take_length] at this
    rw [hz]; simp
   ·have h0b : (x == y) = false := by simp [h0]
    have H0 := Lh h0
    clear h0
    go_wp2_with fail
    go_round
    case rel =>
     refine ⟨k + 1, by omega, by go_num, Lh (fun j hj => ?_)⟩
     rcases Nat.lt_or_ge j k with h1 | h1
     ·exact HZ.out j h1
     ·obtain rfl : j = k := by omega
      rw [HG.out]; simpa using fun h => H0.out h.symm
    case measure => simp [intOf]; omega
  ·obtain rfl : k = l.length := by omega
   go_wp2_with fail
   go_ret
   refine ⟨⟨_, rfl, ?_⟩, rfl⟩
   have hz : l.any (· == x) = false := by
    have := Dp.any_take_no (l := l) (k := l.length) (x := x) HZ.out (Nat.le_refl _)
    rwa [List.take_length] at this
   rw [hz]; decide
theorem containsI_any {W : World} {v : Value} {l : List Int} (x : Int) (h : Ns .i64 W v l) :
 Calls Tryz.prog 85 #[v, .int .i64 x] W fun e W' => e = .returned (.bool (l.any (· == x))) ∧ W = W' := by
 obtain ⟨oa, c, rfl⟩ := ns_slice h
 have H := Lh h
 clear h
 go_enter Tryz.func85, Tryz.ntmps85
 go_wp2_with fail
 refine (indexI_any x H.out).mono ?_
 rintro e w1 ⟨⟨r, rfl, hr⟩, rfl⟩
 have HR := Lh hr
 clear hr
 go_wp2_with fail
 go_ret
 exact ⟨ret_bool HR.out, rfl⟩
/-- the list of the deparser has the room that it says -/
def Pg.CapP (p : Pg.PV) : Prop := ∃ a n c, p.c8 = .slice a n c ∧ n ≤ c ∧ c ≤ 9223372036854775807
def Dp.chkV (P : Pg.Prog) : Value := .tuple #[.int .i64 (Dp.chk P).1, .int .i64 (Dp.chk P).2]
theorem Dp.chkV_of {P : Pg.Prog} {x y : Int} (h : Dp.chk P = (x, y)) : Dp.chkV P = .tuple #[.int .i64 x, .int .i64 y] := by unfold Dp.chkV; rw [h]
theorem dcheck_any {W : World} {p : Pg.PV} {P : Pg.Prog} (hp : Pg.IsP W p P) (hc : Pg.CapP p) :
 Calls Tryz.prog 55 #[p.val] W (Rets W (Dp.chkV P)) := by
 have HP := Lh hp
 obtain ⟨s, a1, a2, a3, a4, a5, a6, a7, a8, m1, m2, n3, m3, n4, m4, n5, m5, n6, m6, n7, m7, m8, hf⟩ := hp.form
 obtain ⟨rfl, hhs, hmd, hdp, hl1, hl2, hl8⟩ := hf
 obtain ⟨ca, cn, cc, hce, hc1, hc2⟩ := hc
 simp only [Value.slice.injEq] at hce
 obtain ⟨rfl, rfl, rfl⟩ := hce
 dsimp only [Pg.PV.val]
 have bb := aH W (.cells (Yq15 s a1 m1 P a2 m2 a3 m3 n3 a4 m4 n4 a5 m5 n5 a6 m6 n6 a7 m7 n7 a8 m8) 31)
 have k1 := alw (cQ 1 bb)
 have k8 := alw (cQ 8 bb)
 have HDP := Lh hdp
 clear bb hp hhs hmd hdp
 by_cases h8 : P.dp.length ≤ 8
 ·have H8 : Hid (¬ 8 < P.dp.length) := Lh (by omega)
  go_enter Tryz.func55, Tryz.ntmps55
  go_wp2_with fail
  go_loopw [13] (fun i wr => ∃ k : Nat, k ≤ P.dp.length ∧ i = .int .i64 k ∧ wr = (W.alloc (.cells (Yq15 s a1 m1 P a2 m2 a3 m3 n3 a4 m4 n4 a5 m5 n5 a6 m6 n6 a7 m7 n7 a8 m8) 31)) ∧ Hid (∀ j, j < k → Dp.bad P j = 0)) (fun i _ => P.dp.length - (intOf i).toNat)
  case atStart => exact ⟨0, Nat.zero_le _, rfl, rfl, Lh (by intro j hj; omega)⟩
  case round =>
   obtain ⟨k, hk, rfl, rfl, HZ⟩ := hrel
   by_cases hlt : k < P.dp.length
   ·obtain ⟨x, hxk⟩ : ∃ x, P.dp[k]? = some x := ⟨_, gE hlt⟩
    obtain ⟨b, o, hoa, hec⟩ := ns_at HDP.out (by omega)
    subst hoa
    have e0 := hec k x hxk
    have HT : Hid (Ns .i64 W (.slice (some ⟨b, o, none⟩) k m8) (P.dp.take k)) := Lh (ns_take HDP.out hk (by omega))
    have hkc : k ≤ m8 := by omega
    by_cases x0 : x < 0
    ·have HR := Lh (Dp.chkV_of (Dp.chk_some H8.out hlt HZ.out (Dp.bad_idx hxk (.inl x0)) (by decide)))
     clear hxk hec
     go_wp2_with fail
     go_ret2
     exact ⟨by rw [HR.out]; rfl, grows⟩
    ·by_cases x1 : x < P.hs.length
     ·cases hd : (P.dp.take k).any (· == x)
      ·have HB := Lh (Dp.bad_no hxk (by omega) x1 hd)
       have HD := Lh hd
       clear hxk hec hd
       go_wp2_with (go_at_call 85; refine (containsI_any x (Ns.ext HT.out grows)).mono ?_; rintro e w1 ⟨rfl, rfl⟩; rw [HD.out])
       go_roundw
       case rel =>
        refine ⟨k + 1, by omega, by go_num, (by first | exact rfl | trivial), Lh (fun j hj => ?_)⟩
        rcases Nat.lt_or_ge j k with h1 | h1
        ·exact HZ.out j h1
        ·obtain rfl : j = k := by omega
         exact HB.out
       case measure => simp [intOf]; omega
      ·have HR := Lh (Dp.chkV_of (Dp.chk_some H8.out hlt HZ.out (Dp.bad_dup hxk (by omega) x1 hd) (by decide)))
       have HD := Lh hd
       clear hxk hec hd
       go_wp2_with (go_at_call 85; refine (containsI_any x (Ns.ext HT.out grows)).mono ?_; rintro e w1 ⟨rfl, rfl⟩; rw [HD.out])
       go_ret2
       exact ⟨by rw [HR.out]; rfl, grows⟩
     ·have x2 : (P.hs.length : Int) ≤ x := by omega
      have dx2 : decide ((P.hs.length : Int) ≤ x) = true := by simp; omega
      have HR := Lh (Dp.chkV_of (Dp.chk_some H8.out hlt HZ.out (Dp.bad_idx hxk (.inr x2)) (by decide)))
      clear hxk hec
      go_wp2_with fail
      go_ret2
      exact ⟨by rw [HR.out]; rfl, grows⟩
   ·obtain rfl : k = P.dp.length := by omega
    have HR := Lh (Dp.chkV_of (Dp.chk_none H8.out HZ.out))
    go_wp2_with fail
    go_ret2
    exact ⟨by rw [HR.out]; rfl, grows⟩
 ·have HR := Lh (Dp.chkV_of (P := P) (Dp.chk_many (by omega)))
  go_enter Tryz.func55, Tryz.ntmps55
  go_wp2_with fail
  go_ret2
  exact ⟨by rw [HR.out]; rfl, grows⟩
namespace Rg
structure Reg where
 nm : ByteArray
 w : Int
 s : Int
def B64 (x : Int) : Prop := -9223372036854775808 ≤ x ∧ x ≤ 9223372036854775807
/-- a register: the cells that hold it -/
def RegR (_ : World) (cs : List Value) (r : Reg) : Prop := cs = [.string r.nm, .int .i64 r.w, .int .i64 r.s] ∧ r.nm.size ≤ maxLen ∧ B64 r.w ∧ B64 r.s
def szB (r : Reg) : Bool := decide (1 ≤ r.s) && decide (r.s ≤ 64)
def chk (r : Reg) : Int := if Id.ok r.nm then (if Bv.ok r.w then (if szB r then 0 else 9) else 10) else 6
theorem mask_zero {w : Int} : Bv.mask w = 0 ↔ Bv.ok w = false := by
 unfold Bv.mask
 cases h : Bv.ok w
 ·simp
 ·have := Bv.ok_iff.1 h
  have h2 : (2 : Int) ^ 1 ≤ 2 ^ w.toNat := by exact_mod_cast Nat.pow_le_pow_right (by decide : 0 < 2) (show 1 ≤ w.toNat by omega)
  simp only [if_true, Bv.pw]
  constructor
  ·intro h3; omega
  ·intro h3; cases h3
end Rg
theorem regs_at {w : World} {b o n c : Nat} {rs : List Rg.Reg} {oa : Option Addr} (h : Rows w 3 Rg.RegR (.slice oa n c) rs) (k : Nat) (r : Rg.Reg) (hk : rs[k]? = some r) (hoa : oa = some ⟨b, o, none⟩) :
 (∀ w' [Grows w w'], w'.cell? ⟨b, o + k * 3, none⟩ = some (.string r.nm)) ∧ (∀ w' [Grows w w'], w'.cell? ⟨b, o + k * 3 + 1, none⟩ = some (.int .i64 r.w)) ∧ (∀ w' [Grows w w'], w'.cell? ⟨b, o + k * 3 + 2, none⟩ = some (.int .i64 r.s)) ∧ r.nm.size ≤ maxLen ∧ Rg.B64 r.w ∧ Rg.B64 r.s := by
 have hlt := (List.getElem?_eq_some_iff.1 hk).1
 obtain ⟨b', o', hb, hn, hc⟩ := Rows.at h (by omega)
 rw [hb] at hoa
 simp only [Option.some.injEq, Addr.mk.injEq, and_true] at hoa
 obtain ⟨rfl, rfl⟩ := hoa
 obtain ⟨cs, _, ⟨rfl, h1, h2, h3⟩, hcs⟩ := hc k _ hk
 exact ⟨alw (hcs 0 _ rfl), alw (hcs 1 _ rfl), alw (hcs 2 _ rfl), h1, h2, h3⟩
theorem sized_any (r : Rg.Reg) (W : World) : Calls Tryz.prog 73 #[.agg #[.string r.nm, .int .i64 r.w, .int .i64 r.s]] W (Rets W (.bool (Rg.szB r))) := by
 by_cases h1 : 1 ≤ r.s <;> by_cases h2 : r.s ≤ 64 <;> first | omega | skip
 all_goals
  have HR := Lh (show Rg.szB r = (decide (1 ≤ r.s) && decide (r.s ≤ 64)) from rfl)
  go_enter Tryz.func73, Tryz.ntmps73
  go_wp2_with fail
  go_ret
  exact ⟨ret_bool (by rw [HR.out]; simp [h1, h2]), grows⟩
theorem rcheck_any (r : Rg.Reg) (hn : r.nm.size ≤ maxLen) (W : World) : Calls Tryz.prog 46 #[.agg #[.string r.nm, .int .i64 r.w, .int .i64 r.s]] W (Rets W (.int .i64 (Rg.chk r))) := by
 have HN := Lh hn
 clear hn
 have bb := aH W (.cells #[.string r.nm, .int .i64 r.w, .int .i64 r.s] 83)
 have k0 := alw (cQ 0 bb)
 have k1 := alw (cQ 1 bb)
 have k2 := alw (cQ 2 bb)
 clear bb
 cases h1 : Id.ok r.nm
 ·have HR := Lh (show Rg.chk r = 6 by unfold Rg.chk; rw [h1]; rfl)
  go_enter Tryz.func46, Tryz.ntmps46
  go_wp2_with (go_at_call 68; refine (ident_any _ _ HN.out).mono ?_; rintro e w1 ⟨rfl, rfl⟩; rw [h1])
  go_ret
  exact ⟨ret_int (by rw [HR.out]), grows⟩
 ·cases h2 : Bv.ok r.w
  ·have HR := Lh (show Rg.chk r = 10 by unfold Rg.chk; rw [h1, h2]; rfl)
   have hz := Rg.mask_zero.2 h2
   go_enter Tryz.func46, Tryz.ntmps46
   go_wp2_with (first | (go_at_call 68; refine (ident_any _ _ HN.out).mono ?_; rintro e w1 ⟨rfl, rfl⟩; rw [h1]) | (go_at_call 72; refine (mask_any _ _).mono ?_; rintro e w2 ⟨rfl, x2⟩; rw [hz]; have s2 := Sm x2))
   go_ret
   exact ⟨ret_int (by rw [HR.out]), grows⟩
  ·have hz : ¬ Bv.mask r.w = 0 := by rw [Rg.mask_zero, h2]; decide
   obtain ⟨y, hy⟩ : ∃ y, y = Bv.mask r.w := ⟨_, rfl⟩
   have HY := Lh hy
   rw [← hy] at hz
   clear hy
   cases h3 : Rg.szB r
   ·have HR := Lh (show Rg.chk r = 9 by unfold Rg.chk; rw [h1, h2, h3]; rfl)
    go_enter Tryz.func46, Tryz.ntmps46
    go_wp2_with (first | (go_at_call 68; refine (ident_any _ _ HN.out).mono ?_; rintro e w1 ⟨rfl, rfl⟩; rw [h1]) | (go_at_call 72; refine (mask_any _ _).mono ?_; rintro e w2 ⟨rfl, x2⟩; rw [← HY.out]; have s2 := Sm x2) | (go_at_call 73; refine (sized_any r _).mono ?_; rintro e w3 ⟨rfl, x3⟩; rw [h3]; have s3 := Sm x3))
    go_ret
    exact ⟨ret_int (by rw [HR.out]), grows⟩
   ·have HR := Lh (show Rg.chk r = 0 by unfold Rg.chk; rw [h1, h2, h3]; rfl)
    go_enter Tryz.func46, Tryz.ntmps46
    go_wp2_with (first | (go_at_call 68; refine (ident_any _ _ HN.out).mono ?_; rintro e w1 ⟨rfl, rfl⟩; rw [h1]) | (go_at_call 72; refine (mask_any _ _).mono ?_; rintro e w2 ⟨rfl, x2⟩; rw [← HY.out]; have s2 := Sm x2) | (go_at_call 73; refine (sized_any r _).mono ?_; rintro e w3 ⟨rfl, x3⟩; rw [h3]; have s3 := Sm x3))
    go_ret
    exact ⟨ret_int (by rw [HR.out]), grows⟩
theorem own_keep {w w' : World} {base : Nat} {e : TypeId} {size : Nat} {v : Value} {n : Nat} {xs : List Value} (h : w.ownsRow base e size v n xs) (hb : ∀ k, v.ownBlock = some k → w'.heap[k]? = w.heap[k]?) : w'.ownsRow base e size v n xs := by
 obtain ⟨h1, h2⟩ := h
 refine ⟨h1, ?_⟩
 rcases h2 with h2 | ⟨g, cap, cur, rfl, hg, hh, r⟩
 ·exact .inl h2
 ·exact .inr ⟨g, cap, cur, rfl, hg, by rw [hb g rfl]; exact hh, r⟩
namespace Tab
variable {B : Nat} {w w' : World} {v : Value} {vs : List Value} {ls : List (List Int)}
end Tab
theorem alwF {W : World} {p o : Nat} {c : Array Value} {t : TypeId} (h : W.heap[p]? = some (.cells c t (0, 0))) (w : World) [g : Grows W w] : w.frozen? ⟨p, o, none⟩ = false := free_of (g.out.heap h)
namespace Tj
/-- a node of an expression -/
structure EN where
 op : Int
 n : Int
 w : Int
structure Stm where
 k : Int
 dh : Int
 df : Int
 rg : Int
 hd : Int
 ix : List EN
 va : List EN
structure Act where
 nm : ByteArray
 ps : List Hd.Fld
 bd : List Stm
structure Key where
 h : Int
 f : Int
 k : Int
structure Call where
 a : Int
 ar : List Int
structure Tab where
 nm : ByteArray
 ks : List Key
 ac : List Int
 df : Call
 sz : Int
/-- a control node: its kind, table and condition; how many nodes stand below it -/
structure CN where
 k : Int
 t : Int
 c : List EN
 th : Nat
 el : Nat
structure FP where
 nm : ByteArray
 P : Pg.Prog
 rs : List Rg.Reg
 ac : List Act
 ts : List Tab
 ss : List Ps.St
 cs : List CN
 nest : Nat
abbrev B64 (x : Int) : Prop := Rg.B64 x
def ENR (_w : World) (cs : List Value) (d : EN) : Prop := cs = [.int .i64 d.op, .int .i64 d.n, .int .i64 d.w] ∧ B64 d.op ∧ B64 d.n ∧ B64 d.w
abbrev Exp (w : World) (v : Value) (l : List EN) : Prop := Rows w 3 ENR v l
theorem Exp.ext {w w' : World} {v : Value} {l : List EN} (h : Exp w v l) (hx : Ext w w') : Exp w' v l := Rows.ext h (fun _ _ h => h) hx
def StmR (w : World) (cs : List Value) (d : Stm) : Prop := ∃ xv vv, cs = [.int .i64 d.k, .int .i64 d.dh, .int .i64 d.df, .int .i64 d.rg, .int .i64 d.hd, xv, vv] ∧ (B64 d.k ∧ B64 d.dh ∧ B64 d.df ∧ B64 d.rg ∧ B64 d.hd) ∧ Exp w xv d.ix ∧ Exp w vv d.va
theorem StmR.ext {w w' : World} {cs : List Value} {d : Stm} (h : StmR w cs d) (hx : Ext w w') : StmR w' cs d := by
 obtain ⟨xv, vv, h1, h2, h3, h4⟩ := h; exact ⟨xv, vv, h1, h2, h3.ext hx, h4.ext hx⟩
abbrev Stms (w : World) (v : Value) (l : List Stm) : Prop := Rows w 7 StmR v l
theorem Stms.ext {w w' : World} {v : Value} {l : List Stm} (h : Stms w v l) (hx : Ext w w') : Stms w' v l := Rows.ext h (fun _ _ h => h.ext hx) hx
def ActR (w : World) (cs : List Value) (d : Act) : Prop := ∃ pv bv, cs = [.string d.nm, pv, bv] ∧ d.nm.size ≤ maxLen ∧ Hd.Flds w pv d.ps ∧ Stms w bv d.bd
theorem ActR.ext {w w' : World} {cs : List Value} {d : Act} (h : ActR w cs d) (hx : Ext w w') : ActR w' cs d := by
 obtain ⟨pv, bv, h1, h2, h3, h4⟩ := h; exact ⟨pv, bv, h1, h2, h3.ext hx, h4.ext hx⟩
abbrev Acts (w : World) (v : Value) (l : List Act) : Prop := Rows w 3 ActR v l
theorem Acts.ext {w w' : World} {v : Value} {l : List Act} (h : Acts w v l) (hx : Ext w w') : Acts w' v l := Rows.ext h (fun _ _ h => h.ext hx) hx
def KeyR (_w : World) (cs : List Value) (d : Key) : Prop := cs = [.int .i64 d.h, .int .i64 d.f, .int .i64 d.k] ∧ B64 d.h ∧ B64 d.f ∧ B64 d.k
abbrev Keys (w : World) (v : Value) (l : List Key) : Prop := Rows w 3 KeyR v l
theorem Keys.ext {w w' : World} {v : Value} {l : List Key} (h : Keys w v l) (hx : Ext w w') : Keys w' v l := Rows.ext h (fun _ _ h => h) hx
/-- integers of Go's int -/
abbrev Is (w : World) (v : Value) (l : List Int) : Prop := Ns .i64 w v l ∧ ∀ x ∈ l, B64 x
theorem Is.ext {w w' : World} {v : Value} {l : List Int} (h : Is w v l) (hx : Ext w w') : Is w' v l := ⟨h.1.ext hx, h.2⟩
/-- words of 32 bits -/
abbrev Us (w : World) (v : Value) (l : List Int) : Prop := Ns .u32 w v l ∧ ∀ x ∈ l, U32 x
theorem Us.ext {w w' : World} {v : Value} {l : List Int} (h : Us w v l) (hx : Ext w w') : Us w' v l := ⟨h.1.ext hx, h.2⟩
def TabR (w : World) (cs : List Value) (d : Tab) : Prop := ∃ kv av dv, cs = [.string d.nm, kv, av, .int .i64 d.df.a, dv, .int .i64 d.sz] ∧ d.nm.size ≤ maxLen ∧ (B64 d.df.a ∧ B64 d.sz) ∧ Keys w kv d.ks ∧ Is w av d.ac ∧ Us w dv d.df.ar
theorem TabR.ext {w w' : World} {cs : List Value} {d : Tab} (h : TabR w cs d) (hx : Ext w w') : TabR w' cs d := by
 obtain ⟨kv, av, dv, h1, h2, h3, h4, h5, h6⟩ := h; exact ⟨kv, av, dv, h1, h2, h3, h4.ext hx, h5.ext hx, h6.ext hx⟩
abbrev Tabs (w : World) (v : Value) (l : List Tab) : Prop := Rows w 6 TabR v l
theorem Tabs.ext {w w' : World} {v : Value} {l : List Tab} (h : Tabs w v l) (hx : Ext w w') : Tabs w' v l := Rows.ext h (fun _ _ h => h.ext hx) hx
/-- a node and what stands below it: the lists in preorder, and how deep they go -/
structure NT where
 d : CN
 tl : List CN
 tn : Nat
 el : List CN
 en : Nat
def NT.all (x : NT) : List CN := x.d :: (x.tl ++ x.el)
def NT.nest (x : NT) : Nat := max x.tn x.en
def flat (l : List NT) : List CN := l.flatMap NT.all
def deep (l : List NT) : Nat := if l = [] then 0 else 1 + (l.map NT.nest).foldr max 0
/-- a list of control nodes, of a depth below n -/
def Ctl : Nat → World → Value → List CN → Nat → Nat → Prop
 | 0 => fun _ _ _ _ _ => False
 | n + 1 => fun w v l d m => ∃ ns : List NT, Rows w 5 (fun w cs x => ∃ cv tv ev, cs = [.int .i64 x.d.k, .int .i64 x.d.t, cv, tv, ev] ∧ (B64 x.d.k ∧ B64 x.d.t) ∧ Exp w cv x.d.c ∧ Ctl n w tv x.tl x.tn x.d.th ∧ Ctl n w ev x.el x.en x.d.el) v ns ∧ l = flat ns ∧ d = deep ns ∧ m = ns.length
def NodeR (n : Nat) (w : World) (cs : List Value) (x : NT) : Prop := ∃ cv tv ev, cs = [.int .i64 x.d.k, .int .i64 x.d.t, cv, tv, ev] ∧ (B64 x.d.k ∧ B64 x.d.t) ∧ Exp w cv x.d.c ∧ Ctl n w tv x.tl x.tn x.d.th ∧ Ctl n w ev x.el x.en x.d.el
theorem ctl_succ {n : Nat} {w : World} {v : Value} {l : List CN} {d m : Nat} : Ctl (n + 1) w v l d m ↔ ∃ ns : List NT, Rows w 5 (NodeR n) v ns ∧ l = flat ns ∧ d = deep ns ∧ m = ns.length := Iff.rfl
theorem Ctl.ext : ∀ {n : Nat} {w w' : World} {v : Value} {l : List CN} {d m : Nat}, Ctl n w v l d m → Ext w w' → Ctl n w' v l d m
 | 0, _, _, _, _, _, _, h, _ => h.elim
 | n + 1, w, w', v, l, d, m, h, hx => by
  rw [ctl_succ] at h ⊢
  obtain ⟨ns, h1, h2⟩ := h
  exact ⟨ns, h1.ext (fun cs x h => by
   obtain ⟨cv, tv, ev, g1, g2, g3, g4, g5⟩ := h
   exact ⟨cv, tv, ev, g1, g2, g3.ext hx, g4.ext hx, g5.ext hx⟩) hx, h2⟩
/-- a program in memory -/
def IsF (w : World) (p : Pg.PV) (F : FP) : Prop := (p.c0 = .string F.nm ∧ F.nm.size ≤ maxLen) ∧ Ps.IsQ w p F.P F.ss ∧ Rows w 3 Rg.RegR p.c3 F.rs ∧ Acts w p.c4 F.ac ∧ Tabs w p.c5 F.ts ∧ (∃ n m, Ctl n w p.c7 F.cs F.nest m) ∧ ∀ x ∈ F.P.dp, B64 x
theorem IsF.ext {w w' : World} {p : Pg.PV} {F : FP} (h : IsF w p F) (hx : Ext w w') : IsF w' p F := by
 obtain ⟨h0, h1, h2, h3, h4, ⟨n, m, h5⟩, h6⟩ := h
 exact ⟨h0, h1.ext hx, h2.ext (fun _ _ h => h) hx, h3.ext hx, h4.ext hx, ⟨n, m, h5.ext hx⟩, h6⟩
end Tj
namespace Tj
def arity (op : Int) : Int := if 1 ≤ op ∧ op ≤ 4 then 0 else if 5 ≤ op ∧ op ≤ 8 then 1 else if 9 ≤ op ∧ op ≤ 16 then 2 else if op = 17 then 3 else -1
/-- element i of a list, where i is an int -/
def at? {α : Type} (l : List α) (i : Int) : Option α := if 0 ≤ i then l[i.toNat]? else none
theorem at_some {α : Type} {l : List α} {i : Int} (h0 : 0 ≤ i) (h1 : i < l.length) : ∃ x, at? l i = some x ∧ l[i.toNat]? = some x := by
 have hl : i.toNat < l.length := by omega
 refine ⟨l[i.toNat], ?_, gE hl⟩
 unfold at?; rw [if_pos h0, gE hl]
theorem at_none {α : Type} {l : List α} {i : Int} (h : i < 0 ∨ (l.length : Int) ≤ i) : at? l i = none := by
 unfold at?
 by_cases h0 : 0 ≤ i
 ·rw [if_pos h0, List.getElem?_eq_none_iff.2 (by omega)]
 ·rw [if_neg h0]
theorem at_get {α : Type} {l : List α} {i : Int} {x : α} (h : at? l i = some x) : 0 ≤ i ∧ i < l.length ∧ l[i.toNat]? = some x := by
 unfold at? at h
 by_cases h0 : 0 ≤ i
 ·rw [if_pos h0] at h
  have := (List.getElem?_eq_some_iff.1 h).1
  exact ⟨h0, by omega, h⟩
 ·rw [if_neg h0] at h; cases h
/-- the fields of a header, or the metadata -/
def fls (P : Pg.Prog) (h : Int) : Option (List Hd.Fld) := if h = -1 then some P.md else (at? P.hs h).map (·.2)
def fld (P : Pg.Prog) (h i : Int) : Option Hd.Fld := (fls P h).bind fun l => at? l i
def wide (w : Int) : Int × Int := if w < 1 ∨ 32 < w then (0, 10) else (w, 0)
/-- the width of a node without operands -/
def prim (P : Pg.Prog) (ps : List Hd.Fld) (n : EN) : Int × Int :=
 if n.op = 1 then (if n.w < 1 ∨ 32 < n.w then (0, 10) else if n.n < 0 ∨ Bv.mask n.w < n.n then (0, 9) else (n.w, 0))
 else if n.op = 2 then (match fld P n.n n.w with | some f => wide f.2 | none => (0, 8))
 else if n.op = 3 then (match at? ps n.n with | some f => wide f.2 | none => (0, 8))
 else if n.n < 0 ∨ (P.hs.length : Int) ≤ n.n then (0, 8) else (1, 0)
def comb (n : EN) (a b c : Int) : Int × Int :=
 if n.op = 8 then (if n.n < 0 then (0, 9) else if n.w < 1 ∨ 32 < n.w then (0, 10) else if a - n.w < n.n then (0, 10) else (n.w, 0))
 else if n.op = 14 then wide (a + b)
 else if n.op = 17 then (if a ≠ 1 ∨ b ≠ c then (0, 10) else (b, 0))
 else if (n.op = 6 ∨ n.op = 7) ∧ (n.n < 0 ∨ 31 < n.n) then (0, 9)
 else if arity n.op = 2 ∧ a ≠ b then (0, 10)
 else if n.op = 15 ∨ n.op = 16 then (1, 0) else (a, 0)
/-- the subexpressions from one place on: their widths, the place behind them, the first error -/
def subs (f : Nat → Int × Nat × Int) : Nat → Nat → List Int × Nat × Int
 | 0, p => ([], p, 0)
 | k + 1, p => if (subs f k p).2.2 ≠ 0 then subs f k p else
  if (f (subs f k p).2.1).2.2 ≠ 0 then ([], 0, (f (subs f k p).2.1).2.2) else ((subs f k p).1 ++ [(f (subs f k p).2.1).1], (f (subs f k p).2.1).2.1, 0)
/-- the subexpression at a place: its width, the place behind it, its error -/
def sub (P : Pg.Prog) (ps : List Hd.Fld) (l : List EN) : Nat → Nat → Int × Nat × Int
 | 0, _ => (0, 0, 3)
 | m + 1, p => match l[p]? with
  | none => (0, 0, 3)
  | some n => if arity n.op < 0 then (0, 0, 11) else if arity n.op = 0 then ((prim P ps n).1, p + 1, (prim P ps n).2)
   else if (subs (sub P ps l m) (arity n.op).toNat (p + 1)).2.2 ≠ 0 then (0, 0, (subs (sub P ps l m) (arity n.op).toNat (p + 1)).2.2)
   else ((comb n ((subs (sub P ps l m) (arity n.op).toNat (p + 1)).1.getD 0 0) ((subs (sub P ps l m) (arity n.op).toNat (p + 1)).1.getD 1 0) ((subs (sub P ps l m) (arity n.op).toNat (p + 1)).1.getD 2 0)).1,
    (subs (sub P ps l m) (arity n.op).toNat (p + 1)).2.1,
    (comb n ((subs (sub P ps l m) (arity n.op).toNat (p + 1)).1.getD 0 0) ((subs (sub P ps l m) (arity n.op).toNat (p + 1)).1.getD 1 0) ((subs (sub P ps l m) (arity n.op).toNat (p + 1)).1.getD 2 0)).2)
/-- the width of an expression, or its error -/
def xchk (P : Pg.Prog) (ps : List Hd.Fld) (l : List EN) : Int × Int :=
 if 24 < l.length then (0, 12) else if (sub P ps l (l.length + 1) 0).2.2 ≠ 0 then (0, (sub P ps l (l.length + 1) 0).2.2)
 else if (sub P ps l (l.length + 1) 0).2.1 < l.length then (0, 4) else ((sub P ps l (l.length + 1) 0).1, 0)
/-- a node at an operand count: the three ways -/
theorem arity_cases (op : Int) : arity op = -1 ∨ arity op = 0 ∨ arity op = 1 ∨ arity op = 2 ∨ arity op = 3 := by
 unfold arity; repeat (first | split | omega)
theorem subs_len {f : Nat → Int × Nat × Int} {k p : Nat} (h : (subs f k p).2.2 = 0) : (subs f k p).1.length = k := by
 induction k with
 | zero => rfl
 | succ k ih =>
  unfold subs at h ⊢
  by_cases h1 : (subs f k p).2.2 ≠ 0
  ·rw [if_pos h1] at h; exact absurd h h1
  ·rw [if_neg h1] at h ⊢
   by_cases h2 : (f (subs f k p).2.1).2.2 ≠ 0
   ·rw [if_pos h2] at h; exact absurd h h2
   ·rw [if_neg h2]; simp [ih (by simpa using h1)]
theorem subs_ge {f : Nat → Int × Nat × Int} (hf : ∀ p, (f p).2.2 = 0 → p < (f p).2.1) {k p : Nat} (h : (subs f k p).2.2 = 0) : p + k ≤ (subs f k p).2.1 := by
 induction k with
 | zero => exact Nat.le_refl _
 | succ k ih =>
  unfold subs at h ⊢
  by_cases h1 : (subs f k p).2.2 ≠ 0
  ·rw [if_pos h1] at h; exact absurd h h1
  ·rw [if_neg h1] at h ⊢
   by_cases h2 : (f (subs f k p).2.1).2.2 ≠ 0
   ·rw [if_pos h2] at h; exact absurd h h2
   ·rw [if_neg h2]
    have a := ih (by simpa using h1)
    have b := hf _ (show (f (subs f k p).2.1).2.2 = 0 by simpa using h2)
    show p + (k + 1) ≤ (f (subs f k p).2.1).2.1
    omega
theorem sub_gt {P : Pg.Prog} {ps : List Hd.Fld} {l : List EN} : ∀ (m p : Nat), (sub P ps l m p).2.2 = 0 → p < (sub P ps l m p).2.1
 | 0, p, h => by simp [sub] at h
 | m + 1, p, h => by
  unfold sub at h ⊢
  cases hl : l[p]? with
  | none => rw [hl] at h; simp at h
  | some n =>
   rw [hl] at h
   dsimp only at h ⊢
   by_cases h1 : arity n.op < 0
   ·rw [if_pos h1] at h; simp at h
   ·rw [if_neg h1] at h ⊢
    by_cases h2 : arity n.op = 0
    ·rw [if_pos h2]; exact Nat.lt_succ_self _
    ·rw [if_neg h2] at h ⊢
     by_cases h3 : (subs (sub P ps l m) (arity n.op).toNat (p + 1)).2.2 ≠ 0
     ·rw [if_pos h3] at h; exact absurd h h3
     ·rw [if_neg h3]
      have := subs_ge (sub_gt (P := P) (ps := ps) (l := l) m) (show (subs (sub P ps l m) (arity n.op).toNat (p + 1)).2.2 = 0 by simpa using h3)
      show p < (subs (sub P ps l m) (arity n.op).toNat (p + 1)).2.1
      omega
end Tj
end Go.Proofs.YtkiafiaodockbaaGreat
