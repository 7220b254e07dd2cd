/- Placement, plainly: cells, what units read and write, how they depend, what they cost; the job. Control flow: applies, checkNode, walked. Control flow: Check, walked. Control flow: Check, walked. Control flow: Check, walked. Programs checked: require, when, names, repeated, walked. No condition. -/
import Derived.Test.YtkiafiaodockbaaGreatKqAF
set_option maxRecDepth 8000
set_option maxHeartbeats 16000000
namespace Go.Proofs.YtkiafiaodockbaaGreat
open Go.RowKit
namespace Pl
open Tj
/-- how many fields the first headers have -/
def nfl (hs : List Hd.Hdr) : Int := (hs.map (fun h => (h.2.length : Int))).foldl (· + ·) 0
def c0 (F : FP) : Int := nfl F.P.hs
def fcell (F : FP) (h f : Int) : Int :=
 if h = -1 then (if f < 0 ∨ (F.P.md.length : Int) ≤ f then -1 else c0 F + F.P.hs.length + f)
 else if h < 0 ∨ (F.P.hs.length : Int) ≤ h ∨ f < 0 ∨ ((F.P.hs.getD h.toNat (⟨#[]⟩, [])).2.length : Int) ≤ f then -1 else f + nfl (F.P.hs.take h.toNat)
def vcell (F : FP) (h : Int) : Int := if h < 0 ∨ (F.P.hs.length : Int) ≤ h then -1 else c0 F + h
def rcell (F : FP) (r : Int) : Int := if r < 0 ∨ (F.rs.length : Int) ≤ r then -1 else c0 F + F.P.hs.length + F.P.md.length + r
/-- fields, headers, registers -/
structure Acc where
 f : List (Int × Int)
 h : List Int
 r : List Int
def Acc.app (a b : Acc) : Acc := ⟨a.f ++ b.f, a.h ++ b.h, a.r ++ b.r⟩
def exF (l : List EN) : List (Int × Int) := (l.filter (fun n => n.op == 2)).map (fun n => (n.n, n.w))
def exH (l : List EN) : List Int := (l.filter (fun n => n.op == 4)).map (·.n)
def acB (F : FP) (i : Int) : List Stm := match at? F.ac i with
 | some a => if actE F a = 0 then a.bd else []
 | none => []
def exA (l : List EN) : Acc := ⟨exF l, exH l, []⟩
def stR (s : Stm) : Acc :=
 (if s.k = 1 then exA s.va else if s.k = 2 then ⟨[], [s.hd], []⟩ else if s.k = 4 then (exA s.ix).app ⟨[], [], [s.rg]⟩ else if s.k = 5 then (exA s.ix).app (exA s.va) else ⟨[], [], []⟩).app
  (if (s.k = 1 ∨ s.k = 4) ∧ s.dh ≠ -1 then ⟨[], [s.dh], []⟩ else ⟨[], [], []⟩)
def hfs (F : FP) (h : Int) : List (Int × Int) := (List.range (F.P.hs.getD h.toNat (⟨#[]⟩, [])).2.length).map (fun (f : Nat) => (h, (f : Int)))
def stW (F : FP) (s : Stm) : Acc :=
 if s.k = 1 ∨ s.k = 4 then ⟨[(s.dh, s.df)], [], []⟩ else if s.k = 2 ∨ s.k = 3 then ⟨hfs F s.hd, [s.hd], []⟩ else if s.k = 5 then ⟨[], [], [s.rg]⟩ else ⟨[], [], []⟩
def accs {α : Type} (g : α → Acc) (l : List α) : Acc := l.foldl (fun a x => a.app (g x)) ⟨[], [], []⟩
def acR (F : FP) (i : Int) : Acc := accs stR (acB F i)
def acW (F : FP) (i : Int) : Acc := accs (stW F) (acB F i)
/-- the cells that there are -/
def cells (F : FP) (a : Acc) : List Int := (a.f.map (fun q => fcell F q.1 q.2) ++ a.h.map (vcell F) ++ a.r.map (rcell F)).filter (fun x => decide (0 ≤ x))
def rdL (F : FP) (u : Un) : List Int := if u.tb = -1 then cells F (exA u.cd) else match at? F.ts u.tb with
 | some t => t.ks.flatMap (fun k => cells F ⟨[(k.h, k.f)], [], []⟩) ++ t.ac.flatMap (fun a => cells F (acR F a))
 | none => []
def wrL (F : FP) (u : Un) : List Int := match at? F.ts u.tb with
 | some t => t.ac.flatMap (fun a => cells F (acW F a))
 | none => []
def comm (a b : List Int) : Bool := a.any (fun x => b.any (fun y => x == y))
theorem comm_iff {a b : List Int} : comm a b = true ↔ ∃ x, x ∈ a ∧ x ∈ b := by
 unfold comm
 rw [List.any_eq_true]
 constructor
 ·rintro ⟨x, hx, h⟩
  obtain ⟨y, hy, e⟩ := List.any_eq_true.1 h
  obtain rfl := beq_iff_eq.1 e
  exact ⟨x, hx, hy⟩
 ·rintro ⟨x, hx, hy⟩
  exact ⟨x, hx, List.any_eq_true.2 ⟨x, hy, bT rfl⟩⟩
theorem comm_same {a b a' b' : List Int} (ha : ∀ x, x ∈ a ↔ x ∈ a') (hb : ∀ x, x ∈ b ↔ x ∈ b') : comm a b = comm a' b' := by
 rw [Bool.eq_iff_iff, comm_iff, comm_iff]
 exact ⟨fun ⟨x, h1, h2⟩ => ⟨x, (ha x).1 h1, (hb x).1 h2⟩, fun ⟨x, h1, h2⟩ => ⟨x, (ha x).2 h1, (hb x).2 h2⟩⟩
def excl (u v : Un) : Bool := u.gs.any (fun g => v.gs.any (fun q => q.1 == g.1 && q.2 == !g.2))
def grd (v : Un) (i : Int) : Bool := v.gs.any (fun g => g.1 == i)
def un0 : Un := ⟨0, [], []⟩
/-- how unit j depends on unit i -/
def depP (F : FP) (us : List Un) (i j : Nat) : Int :=
 if excl (us.getD i un0) (us.getD j un0) then 0
 else if grd (us.getD j un0) i || (comm (rdL F (us.getD j un0)) (wrL F (us.getD i un0)) || comm (wrL F (us.getD j un0)) (wrL F (us.getD i un0))) then 2
 else if comm (wrL F (us.getD j un0)) (rdL F (us.getD i un0)) then 1 else 0
def dep (F : FP) (us : List Un) (i j : Nat) : Int := if i < j then depP F us i j else 0
def MAXI : Int := 9223372036854775807
def sadd (a b : Int) : Int := if MAXI - a < b then MAXI else a + b
def sumr (a b : Int) : Int := sadd (max a 0) (max b 0)
def blk (n s : Int) : Int := (n + s - 1).tdiv s
def pbits (a : Tj.Act) : Int := (a.ps.map (·.2)).foldl (· + ·) 0
/-- the most argument bits of a table's actions -/
def abits (F : FP) (t : Tj.Tab) : Int := t.ac.foldl (fun w a => match at? F.ac a with | some x => max w (pbits x) | none => w) 0
def tbits (F : FP) (t : Int) : Int := (wids F t).foldl (· + ·) 0
/-- what a table occupies -/
def tcost (F : FP) (t : Int) : Int × Int := match at? F.ts t with
 | some x => if x.ks.length = 0 then (0, 0) else if kind F t = 1 then (blk (x.sz * (tbits F t + (8 + abits F x))) 4096, 0) else (blk (x.sz * (8 + abits F x)) 4096, blk (x.sz * tbits F t) 2048)
 | none => (0, 0)
def ucost (F : FP) (u : Un) : Int × Int := if u.tb = -1 then (0, 0) else tcost F u.tb
/-- a chip -/
structure Chip where
 S : Int
 t : Int
 g : Int
 r : Int
 c : Int
 c8 : Int
 c16 : Int
 c32 : Int
def cbad (n : Int) : Bool := decide (n < 0) || decide (64 < n)
/-- what CheckChip says -/
def chipE (C : Chip) : Int := if C.S < 1 ∨ 16 < C.S then 9 else if cbad C.t || cbad C.g || cbad C.c8 || cbad C.c16 || cbad C.c32 then 9 else if C.r < 0 ∨ 4096 < C.r ∨ C.c < 0 ∨ 4096 < C.c then 9 else 0
def adU (F : FP) (us : List Un) (u : Us) (i : Nat) : Us :=
 if (us.getD i un0).tb < 0 then ⟨u.t, u.g + 1, sumr u.r (ucost F (us.getD i un0)).1, sumr u.c (ucost F (us.getD i un0)).2⟩
 else ⟨u.t + 1, u.g, sumr u.r (ucost F (us.getD i un0)).1, sumr u.c (ucost F (us.getD i un0)).2⟩
def wiU (C : Chip) (u : Us) : Bool := decide (u.t ≤ C.t) && (decide (u.g ≤ C.g) && (decide (u.r ≤ C.r) && decide (u.c ≤ C.c)))
def job (F : FP) (C : Chip) (us : List Un) : Job := ⟨us.length, C.S, adU F us, wiU C, dep F us, fun u => (0 ≤ u.r ∧ u.r ≤ MAXI) ∧ (0 ≤ u.c ∧ u.c ≤ MAXI)⟩
theorem sumr_ge {a b : Int} (h : 0 ≤ a) (h2 : a ≤ MAXI) : a ≤ sumr a b ∧ 0 ≤ sumr a b ∧ sumr a b ≤ MAXI := by
 unfold sumr sadd
 rw [Int.max_eq_left h]
 have h3 : 0 ≤ max b 0 := Int.le_max_right _ _
 unfold MAXI at *
 split <;> omega
theorem sumr_mono {a a' b : Int} (h : 0 ≤ a) (hl : a ≤ a') : sumr a b ≤ sumr a' b := by
 unfold sumr sadd
 rw [Int.max_eq_left h, Int.max_eq_left (show (0 : Int) ≤ a' by omega)]
 unfold MAXI at *
 split <;> split <;> omega
theorem job_ok {F : FP} {C : Chip} {us : List Un} (hc : chipE C = 0) : (job F C us).Ok := by
 have hC : 0 ≤ C.t ∧ 0 ≤ C.g ∧ 0 ≤ C.r ∧ 0 ≤ C.c := by
  unfold chipE at hc
  split at hc
  ·cases hc
  ·split at hc
   ·cases hc
   ·rename_i h2
    split at hc
    ·cases hc
    ·simp only [cbad, Bool.or_eq_true, decide_eq_true_eq, not_or] at h2
     omega
 refine ⟨?_, ?_, ?_, ?_, ?_⟩
 ·show (0 ≤ (0 : Int) ∧ 0 ≤ MAXI) ∧ (0 ≤ (0 : Int) ∧ 0 ≤ MAXI)
  unfold MAXI; decide
 ·intro u i hp
  have h1 := sumr_ge (b := (ucost F (us.getD i un0)).1) hp.1.1 hp.1.2
  have h2 := sumr_ge (b := (ucost F (us.getD i un0)).2) hp.2.1 hp.2.2
  show u.le (adU F us u i) ∧ ((0 ≤ (adU F us u i).r ∧ (adU F us u i).r ≤ MAXI) ∧ (0 ≤ (adU F us u i).c ∧ (adU F us u i).c ≤ MAXI))
  unfold adU Us.le
  split
  ·exact ⟨⟨Int.le_refl _, by show u.g ≤ u.g + 1; omega, h1.1, h2.1⟩, ⟨h1.2, h2.2⟩⟩
  ·exact ⟨⟨by show u.t ≤ u.t + 1; omega, Int.le_refl _, h1.1, h2.1⟩, ⟨h1.2, h2.2⟩⟩
 ·intro u v i hu _ hl
  have h1 := sumr_mono (b := (ucost F (us.getD i un0)).1) hu.1.1 hl.2.2.1
  have h2 := sumr_mono (b := (ucost F (us.getD i un0)).2) hu.2.1 hl.2.2.2
  show (adU F us u i).le (adU F us v i)
  have h3 := hl.1
  have h4 := hl.2.1
  unfold adU Us.le
  split
  ·exact ⟨h3, by show u.g + 1 ≤ v.g + 1; omega, h1, h2⟩
  ·exact ⟨by show u.t + 1 ≤ v.t + 1; omega, h4, h1, h2⟩
 ·intro u v hl hw
  show wiU C u = true
  have hw : wiU C v = true := hw
  unfold wiU at hw ⊢
  simp only [Bool.and_eq_true, decide_eq_true_eq] at hw ⊢
  have h1 := hl.1
  have h2 := hl.2.1
  have h3 := hl.2.2.1
  have h4 := hl.2.2.2
  omega
 ·show wiU C ⟨0, 0, 0, 0⟩ = true
  unfold wiU
  simp only [Bool.and_eq_true, decide_eq_true_eq]
  exact ⟨hC.1, hC.2.1, hC.2.2.1, hC.2.2.2⟩
end Pl
theorem applies_any (x : Tj.CN) (ca ta ea : Option Addr) (cc tc ec : Nat) (W : World) : Calls Tryz.prog 84 #[.agg #[.int .i64 x.k, .int .i64 x.t, .slice ca x.c.length cc, .slice ta x.th tc, .slice ea x.el ec]] W (Rets W (.bool (Tj.apl x))) := by
 obtain ⟨nk, nt, c, th, el⟩ := x
 dsimp only
 obtain ⟨R, hR⟩ : ∃ z, z = Tj.apl ⟨nk, nt, c, th, el⟩ := ⟨_, rfl⟩
 rw [← hR]
 unfold Tj.apl at hR
 dsimp only at hR
 have bx := aH W (.cells #[.int .i64 nk, .int .i64 nt, .slice ca c.length cc, .slice ta th tc, .slice ea el ec] 101)
 have k0 := alw (cQ 0 bx)
 have k1 := alw (cQ 1 bx)
 have k2 := alw (cQ 2 bx)
 have k3 := alw (cQ 3 bx)
 have k4 := alw (cQ 4 bx)
 clear bx
 by_cases h1 : nk = 1
 ·subst h1
  have HE : Hid (R = true) := Lh (by rw [hR]; rfl)
  clear hR
  go_enter Tryz.func84, Tryz.ntmps84
  go_wp2_with fail
  go_ret
  exact ⟨ret_bool (by rw [HE.out]), grows⟩
 ·have e1 : (nk == 1) = false := bF (by omega)
  rw [e1, Bool.false_or] at hR
  have HE := Lh hR
  clear hR h1
  go_enter Tryz.func84, Tryz.ntmps84
  go_wp2_with fail
  go_ret
  exact ⟨ret_bool (by rw [HE.out]), grows⟩
theorem cnode_any {W : World} {p : Pg.PV} {F : Tj.FP} (hF : Tj.IsF W p F) (x : Tj.CN) {ca : Option Addr} {cc : Nat} (hc : Tj.Exp W (.slice ca x.c.length cc) x.c) (ta ea : Option Addr) (tc ec : Nat) (hte : x.th + x.el ≤ 1048576) {uv : Value} {us : List Int} (hu : Ns .i64 W uv us) :
 Calls Tryz.prog 83 #[p.val, .agg #[.int .i64 x.k, .int .i64 x.t, .slice ca x.c.length cc, .slice ta x.th tc, .slice ea x.el ec], uv] W (Rets W (.int .i64 (Tj.nodeE F us x))) := by
 have HXC := Lh (fun (w : World) (hx : Ext W w) => xcheck_any (hF.ext hx) (ps := []) (pv := .slice none 0 0) (.inl ⟨rfl, rfl⟩) (hc.ext hx))
 obtain ⟨a1, a2, a3, a4, a5, a6, a7, a8, m1, m2, m3, m4, m5, m6, n7, m7, m8, hf⟩ := hF.form
 obtain ⟨rfl, hnm, hhs, hmd, hrs, has, hts, hss, hct, hdp, l1, l2, l3, l4, l5, l6, l7, l8⟩ := hf
 obtain ⟨ua, uc, rfl⟩ := ns_slice hu
 have hul := hu.2
 unfold maxLen at hul
 obtain ⟨nk, nt, c, th, el⟩ := x
 obtain ⟨R, hR⟩ : ∃ z, z = Tj.nodeE F us ⟨nk, nt, c, th, el⟩ := ⟨_, rfl⟩
 dsimp only [Pg.PV.val, Tj.scv] at *
 rw [← hR]
 unfold Tj.nodeE at hR
 dsimp only at hR
 have HU := Lh hu
 have bx := aH W (.cells (Yq0 F a1 m1 a2 m2 a3 m3 a4 m4 a5 m5 a6 m6 a7 m7 n7 a8 m8) 31)
 have k0 := alw (cQ 0 bx)
 have k1 := alw (cQ 1 bx)
 have k2 := alw (cQ 2 bx)
 have k3 := alw (cQ 3 bx)
 have k4 := alw (cQ 4 bx)
 have k5 := alw (cQ 5 bx)
 have k6 := alw (cQ 6 bx)
 have k7 := alw (cQ 7 bx)
 have k8 := alw (cQ 8 bx)
 clear bx
 have bx := aH (W.alloc (.cells (Yq0 F a1 m1 a2 m2 a3 m3 a4 m4 a5 m5 a6 m6 a7 m7 n7 a8 m8) 31)) (.cells #[.int .i64 nk, .int .i64 nt, .slice ca c.length cc, .slice ta th tc, .slice ea el ec] 101)
 rw [szA] at bx
 have j0 := alw (cQ 0 bx)
 have j1 := alw (cQ 1 bx)
 have j2 := alw (cQ 2 bx)
 have j3 := alw (cQ 3 bx)
 have j4 := alw (cQ 4 bx)
 clear bx
 clear hF hnm hhs hmd hrs has hts hss hct hdp
 clear hc hu
 by_cases h13 : nk = 1 ∨ nk = 3
 ·rw [if_pos h13] at hR
  clear HXC
  have hz : ∀ (z : Int), (nk = 1 → z = if 0 < th + el then 5 else 0) → (nk = 3 → z = 0) → True := fun _ _ _ => trivial
  by_cases ht0 : nt < 0
  ·have HE : Hid (R = 8) := Lh (by rw [hR, if_pos (.inl ht0)])
   have d1 : decide (nt < 0) = true := dTt (by omega)
   clear hR
   rcases h13 with rfl | rfl
   all_goals
    go_enter Tryz.func83, Tryz.ntmps83
    go_wp2_with fail
    go_ret
    exact ⟨ret_int (by rw [HE.out]), grows⟩
  ·have d1 : decide (nt < 0) = false := dF (by omega)
   by_cases ht1 : (F.ts.length : Int) ≤ nt
   ·have HE : Hid (R = 8) := Lh (by rw [hR, if_pos (.inr ht1)])
    have d2 : decide ((F.ts.length : Int) ≤ nt) = true := dTt (by omega)
    clear hR
    rcases h13 with rfl | rfl
    all_goals
     go_enter Tryz.func83, Tryz.ntmps83
     go_wp2_with fail
     go_ret
     exact ⟨ret_int (by rw [HE.out]), grows⟩
   ·have d2 : decide ((F.ts.length : Int) ≤ nt) = false := dF (by omega)
    rw [if_neg (by omega)] at hR
    have HR := Lh hR
    have H13 := Lh h13
    have hb1 : (nk == 1) = true ∨ (nk == 1) = false := by cases (nk == 1) <;> simp
    clear hR ht0 ht1 hz hb1
    have key : ∀ (bb : Bool), bb = decide (nk = 1) → Hid (∀ (Q : Prop), Q → Q) := fun _ _ => Lh (fun _ h => h)
    clear key
    rcases h13 with rfl | rfl
    all_goals
     go_enter Tryz.func83, Tryz.ntmps83
     go_wp2_with fail
     go_loopw [29] (fun q wr => ∃ k : Nat, k ≤ us.length ∧ q = .int .i64 k ∧ Hid (Ext ((W.alloc (.cells (Yq0 F a1 m1 a2 m2 a3 m3 a4 m4 a5 m5 a6 m6 a7 m7 n7 a8 m8) 31)).alloc (.cells #[.int .i64 _, .int .i64 nt, .slice ca c.length cc, .slice ta th tc, .slice ea el ec] 101)) wr ∧ ∀ j, j < k → (us.getD j 0 == nt) = false)) (fun q _ => us.length - (intOf q).toNat)
     case atStart => exact ⟨0, Nat.zero_le _, rfl, Lh ⟨eR _, by intro j hj; omega⟩⟩
     case round =>
      obtain ⟨k, hk, rfl, HZ⟩ := hrel
      have sx := Sm HZ.out.1
      by_cases hlt : k < us.length
      ·obtain ⟨y, hx⟩ : ∃ y, us[k]? = some y := ⟨_, gE hlt⟩
       obtain ⟨b, o, rfl, hc⟩ := ns_at HU.out (by omega)
       have v0 := hc k y hx
       have hg : us.getD k 0 = y := by rw [List.getD_eq_getElem?_getD, hx]; rfl
       have HG := Lh hg
       clear hx hc hg
       by_cases hy : y = nt
       ·have z1 : (y == nt) = true := bT hy
        have HE : Hid (R = 7) := Lh (by
         have := Dp.any_take_yes (l := us) (k := us.length) (j := k) (x := nt) (by rw [HG.out]; exact z1) hlt (Nat.le_refl _)
         rw [List.take_length] at this
         rw [HR.out, if_pos this])
        clear hy
        go_wp2_with fail
        go_ret
        exact ⟨ret_int (by rw [HE.out]), grows⟩
       ·have z1 : (y == nt) = false := bF hy
        have HY := Lh z1
        clear hy
        go_wp2_with fail
        go_roundw
        case rel =>
         refine ⟨k + 1, by omega, by go_num, Lh ⟨grows, fun j hj => ?_⟩⟩
         rcases Nat.lt_or_ge j k with h1 | h1
         ·exact HZ.out.2 j h1
         ·obtain rfl : j = k := by omega
          rw [HG.out]; exact HY.out
        case measure => simp [intOf]; omega
      ·obtain rfl : k = us.length := by omega
       have hno : us.any (· == nt) = false := by
        have := Dp.any_take_no (l := us) (k := us.length) (x := nt) HZ.out.2 (Nat.le_refl _)
        rw [List.take_length] at this
        exact this
       by_cases hte0 : 0 < th + el
       ·have d4 : decide ((0 : Int) < (th : Int) + (el : Int)) = true := dTt (by omega)
        have HE := Lh (HR.out.trans (by rw [hno, if_neg (by decide)]))
        clear hno
        go_wp2_with fail
        go_ret
        exact ⟨ret_int (by rw [HE.out]; simp [hte0]), grows⟩
       ·have d4 : decide ((0 : Int) < (th : Int) + (el : Int)) = false := dF (by omega)
        have HE := Lh (HR.out.trans (by rw [hno, if_neg (by decide)]))
        clear hno
        go_wp2_with fail
        go_ret
        exact ⟨ret_int (by rw [HE.out]; simp [hte0]), grows⟩
 ·rw [if_neg h13] at hR
  have e1 : (nk == 1) = false := bF (by omega)
  have e3 : (nk == 3) = false := bF (by omega)
  clear h13
  by_cases h2 : nk = 2
  ·subst h2
   rw [if_pos rfl] at hR
   obtain ⟨⟨xw, xe⟩, hxr⟩ : ∃ z, z = Tj.xchk F.P [] c := ⟨_, rfl⟩
   rw [← hxr] at HXC hR
   dsimp only at HXC hR
   clear hxr e1 e3
   by_cases hx0 : xe = 0
   ·subst hx0
    rw [if_neg (by simp)] at hR
    by_cases hw : xw = 1
    ·subst hw
     have HE : Hid (R = 0) := Lh (by rw [hR, if_neg (by simp)])
     clear hR
     go_enter Tryz.func83, Tryz.ntmps83
     go_wp2_with fail
     refine via (HXC.out _ grows) fun w5 xw5 sw5 => ?_
     go_wp2_with fail
     go_ret
     exact ⟨ret_int (by rw [HE.out]), grows⟩
    ·have HE : Hid (R = 10) := Lh (by rw [hR, if_pos hw])
     have z1 : (xw != 1) = true := nT hw
     clear hR hw
     go_enter Tryz.func83, Tryz.ntmps83
     go_wp2_with fail
     refine via (HXC.out _ grows) fun w5 xw5 sw5 => ?_
     go_wp2_with fail
     go_ret
     exact ⟨ret_int (by rw [HE.out]), grows⟩
   ·have HE : Hid (R = xe) := Lh (by rw [hR, if_pos hx0])
    have z1 : (xe != 0) = true := nT hx0
    clear hR hx0
    go_enter Tryz.func83, Tryz.ntmps83
    go_wp2_with fail
    refine via (HXC.out _ grows) fun w5 xw5 sw5 => ?_
    go_wp2_with fail
    go_ret
    exact ⟨ret_int (by rw [HE.out]), grows⟩
  ·have HE : Hid (R = 11) := Lh (by rw [hR, if_neg h2])
   have e2 : (nk == 2) = false := bF (by omega)
   clear hR h2 HXC
   go_enter Tryz.func83, Tryz.ntmps83
   go_wp2_with fail
   go_ret
   exact ⟨ret_int (by rw [HE.out]), grows⟩
namespace Tj
/-- the first node that is wrong, and what stands ahead of it -/
def badN (F : FP) : List CN → List CN → Option (List CN × CN)
 | _, [] => none
 | pre, x :: l => if nodeE F (usedBy pre) x = 0 then badN F (pre ++ [x]) l else some (pre, x)
theorem badN_cons (F : FP) (pre : List CN) (x : CN) (l : List CN) : badN F pre (x :: l) = if nodeE F (usedBy pre) x = 0 then badN F (pre ++ [x]) l else some (pre, x) := rfl
theorem badN_append {F : FP} : ∀ (l pre m : List CN), badN F pre (l ++ m) = match badN F pre l with | none => badN F (pre ++ l) m | some r => some r
 | [], pre, m => by simp [badN]
 | x :: l, pre, m => by
  rw [List.cons_append, badN_cons, badN_cons]
  by_cases h : nodeE F (usedBy pre) x = 0
  ·rw [if_pos h, if_pos h, badN_append l (pre ++ [x]) m, List.append_assoc]; rfl
  ·rw [if_neg h, if_neg h]
theorem badN_none {F : FP} {l pre m : List CN} (h : badN F pre l = none) : badN F pre (l ++ m) = badN F (pre ++ l) m := by rw [badN_append, h]
theorem badN_stop {F : FP} {l pre m : List CN} {r : List CN × CN} (h : badN F pre l = some r) : badN F pre (l ++ m) = some r := by rw [badN_append, h]
theorem scan_bad {F : FP} : ∀ (l pre : List CN), scanE F pre l = match badN F pre l with | none => 0 | some r => nodeE F (usedBy r.1) r.2
 | [], _ => rfl
 | x :: l, pre => by
  rw [scanE_cons, badN_cons]
  by_cases h : nodeE F (usedBy pre) x = 0
  ·rw [if_neg (by simpa using h), if_pos h]; exact scan_bad l (pre ++ [x])
  ·rw [if_pos h, if_neg h]
theorem badN_ne {F : FP} : ∀ {l pre : List CN} {r : List CN × CN}, badN F pre l = some r → nodeE F (usedBy r.1) r.2 ≠ 0
 | [], _, _, h => by cases h
 | x :: l, pre, r, h => by
  rw [badN_cons] at h
  by_cases h0 : nodeE F (usedBy pre) x = 0
  ·rw [if_pos h0] at h; exact badN_ne h
  ·rw [if_neg h0] at h
   obtain rfl := Option.some.inj h
   exact h0
theorem usedBy_snoc (l : List CN) (x : CN) : usedBy (l ++ [x]) = if apl x then usedBy l ++ [x.t] else usedBy l := by
 unfold usedBy
 rw [List.filter_append, List.map_append]
 cases h : apl x <;> simp [h]
theorem usedBy_len (l : List CN) : (usedBy l).length ≤ l.length := by
 unfold usedBy; rw [List.length_map]; exact List.length_filter_le _ _
theorem ctl_len {n : Nat} {w : World} {v : Value} {l : List CN} {d m : Nat} (h : Ctl n w v l d m) : m ≤ l.length := by
 cases n with
 | zero => exact h.elim
 | succ n =>
  rw [ctl_succ] at h
  obtain ⟨ns, h1, rfl, h2, rfl⟩ := h
  clear h1 h2
  induction ns with
  | nil => exact Nat.zero_le _
  | cons x l ih => rw [flat_cons]; simp only [List.length_cons, List.length_append]; omega
end Tj
theorem KeepN.grown {w w' : World} {B : Nat} {e : TypeId} {v : Value} {n : Nat} {xs : List Value} (ho : w.ownsRow B e 1 v n xs) (hg : w.grownBy w' v.ownBlock) (hne : e ≠ 101) : KeepN w w' := fun k c f hk => by
 rw [hg.block k (lt_of_block hk) (fun hr => by
  obtain ⟨cur, hc⟩ := own_type ho hr.symm
  rw [hk] at hc
  simp only [Option.some.injEq, Obj.cells.injEq] at hc
  exact hne hc.2.1.symm)]
 exact hk
/-- the variables of Check while it goes through the nodes -/
structure ChkS (W : World) (p : Pg.PV) (bp be bn bu : Nat) (n : Nat) (us : List Int) (err : Int) (w : World) : Prop where
 x : Ext W w
 hp : w.heap[bp]? = some (.cells #[p.c0, p.c1, p.c2, p.c3, p.c4, p.c5, p.c6, p.c7, p.c8] 31 (0, 0))
 he : w.heap[be]? = some (.cells #[.int .i64 err] 44 (0, 0))
 hn : w.heap[bn]? = some (.cells #[.int .i64 n] 3 (0, 0))
 hu : ∃ uv, w.heap[bu]? = some (.cells #[uv] 29 (0, 0)) ∧ w.ownsRow (bu + 1) 3 1 uv us.length (i64s us)
 o : W.heap.size ≤ bp ∧ bp < be ∧ be < bn ∧ bn < bu
section
variable {W : World} {p : Pg.PV} {bp be bn bu n : Nat} {us : List Int} {err : Int} {w w' : World}
theorem heap_other {w : World} {b k : Nat} {v : Value} (h : k ≠ b) : (w.setCell ⟨b, 0, none⟩ v).heap[k]? = w.heap[k]? := by
 rw [Below.heap_setCell _ _ _ _ (by first | exact h | exact fun e => h e.symm)]
theorem own_set {B : Nat} {e : TypeId} {v : Value} {m : Nat} {xs : List Value} (h : w.ownsRow B e 1 v m xs) {b : Nat} (hb : b < B) (u : Value) : (w.setCell ⟨b, 0, none⟩ u).ownsRow B e 1 v m xs :=
 own_keep h (fun k hk => heap_other (by have := (h.lt k hk).1; omega))
theorem ChkS.ext (h : ChkS W p bp be bn bu n us err w) (hx : Ext w w') : ChkS W p bp be bn bu n us err w' :=
 ⟨h.x.trans hx, hx.heap h.hp, hx.heap h.he, hx.heap h.hn, let ⟨uv, h1, h2⟩ := h.hu; ⟨uv, hx.heap h1, own_ext h2 hx⟩, h.o⟩
theorem ChkS.setE (h : ChkS W p bp be bn bu n us err w) (e' : Int) : ChkS W p bp be bn bu n us e' (w.setCell ⟨be, 0, none⟩ (.int .i64 e')) := by
 obtain ⟨o1, o2, o3, o4⟩ := h.o
 obtain ⟨uv, h1, h2⟩ := h.hu
 exact ⟨h.x.setCell (by show W.heap.size ≤ be; omega) _, by rw [heap_other (by omega)]; exact h.hp, by rw [setCell_heap h.he]; rfl, by rw [heap_other (by omega)]; exact h.hn, ⟨uv, by rw [heap_other (by omega)]; exact h1, own_set h2 (by omega) _⟩, h.o⟩
theorem ChkS.setN (h : ChkS W p bp be bn bu n us err w) (n' : Nat) : ChkS W p bp be bn bu n' us err (w.setCell ⟨bn, 0, none⟩ (.int .i64 n')) := by
 obtain ⟨o1, o2, o3, o4⟩ := h.o
 obtain ⟨uv, h1, h2⟩ := h.hu
 exact ⟨h.x.setCell (by show W.heap.size ≤ bn; omega) _, by rw [heap_other (by omega)]; exact h.hp, by rw [heap_other (by omega)]; exact h.he, by rw [setCell_heap h.hn]; rfl, ⟨uv, by rw [heap_other (by omega)]; exact h1, own_set h2 (by omega) _⟩, h.o⟩
theorem ChkS.setU {uv uv' : Value} {us' : List Int} (h : ChkS W p bp be bn bu n us err w) (h2 : w.ownsRow (bu + 1) 3 1 uv us.length (i64s us)) (hb : w.heap[bu]? = some (.cells #[uv] 29 (0, 0))) (hg : w.grownBy w' uv.ownBlock)
 (ho : w'.ownsRow (bu + 1) 3 1 uv' us'.length (i64s us')) : ChkS W p bp be bn bu n us' err (w'.setCell ⟨bu, 0, none⟩ uv') := by
 obtain ⟨o1, o2, o3, o4⟩ := h.o
 have hk : ∀ k, k < bu + 1 → ∀ o, w.heap[k]? = some o → w'.heap[k]? = some o := fun k hk o hc => by
  rw [hg.block k (lt_of_block hc) (fun hr => by have := (h2.lt k hr.symm).1; omega)]; exact hc
 refine ⟨(h.x.mod (grown_mod hg) (fun q hq => by have := (h2.lt q hq.symm).1; omega)).setCell (by show W.heap.size ≤ bu; omega) _, ?_, ?_, ?_, ⟨uv', ?_, own_set ho (by omega) _⟩, h.o⟩
 ·rw [heap_other (by omega)]; exact hk bp (by omega) _ h.hp
 ·rw [heap_other (by omega)]; exact hk be (by omega) _ h.he
 ·rw [heap_other (by omega)]; exact hk bn (by omega) _ h.hn
 ·rw [setCell_heap (hk bu (by omega) _ hb)]; rfl
end
/-- what Check's closure leaves: the node is right and counted, or its error lies in the variable -/
def Chk1P (W : World) (p : Pg.PV) (F : Tj.FP) (bp be bn bu : Nat) (pre : List Tj.CN) (x : Tj.CN) (w : World) (e : Ending) (w' : World) : Prop := KeepN w w' ∧
 ((Tj.nodeE F (Tj.usedBy pre) x = 0 ∧ e = .returned (.bool true) ∧ ChkS W p bp be bn bu (pre.length + 1) (Tj.usedBy (pre ++ [x])) 0 w') ∨ (Tj.nodeE F (Tj.usedBy pre) x ≠ 0 ∧ e = .returned (.bool false) ∧ ChkS W p bp be bn bu pre.length (Tj.usedBy pre) (Tj.nodeE F (Tj.usedBy pre) x) w'))
theorem chk1_any {W w : World} {p : Pg.PV} {F : Tj.FP} (hF : Tj.IsF W p F) {bp be bn bu : Nat} (pre : List Tj.CN) (h : ChkS W p bp be bn bu pre.length (Tj.usedBy pre) 0 w) (hpl : pre.length ≤ 1048576) (x : Tj.CN) {ca : Option Addr} {cc : Nat} (hc : Tj.Exp W (.slice ca x.c.length cc) x.c) (ta ea : Option Addr) (tc ec : Nat) (hte : x.th + x.el ≤ 1048576) :
 Calls Tryz.prog 82 #[.agg #[.int .i64 x.k, .int .i64 x.t, .slice ca x.c.length cc, .slice ta x.th tc, .slice ea x.el ec], .pointer (some ⟨bp, 0, none⟩), .pointer (some ⟨bu, 0, none⟩), .pointer (some ⟨be, 0, none⟩), .pointer (some ⟨bn, 0, none⟩)] w (Chk1P W p F bp be bn bu pre x w) := by
 obtain ⟨uv, hu1, hu2⟩ := h.hu
 obtain ⟨ua, uc, rfl⟩ := own_slice hu2
 have hul := Tj.usedBy_len pre
 have HCN : Hid (∀ w', Ext w w' → Calls Tryz.prog 83 #[p.val, .agg #[.int .i64 x.k, .int .i64 x.t, .slice ca x.c.length cc, .slice ta x.th tc, .slice ea x.el ec], .slice ua (Tj.usedBy pre).length uc] w' (Rets w' (.int .i64 (Tj.nodeE F (Tj.usedBy pre) x)))) := Lh (fun w' hx => cnode_any (hF.ext (h.x.trans hx)) x (hc.ext (h.x.trans hx)) ta ea tc ec hte ⟨own_src (own_ext hu2 hx) (i64s_one _), by unfold maxLen; omega⟩)
 obtain ⟨o1, o2, o3, o4⟩ := h.o
 have bup : bu < w.heap.size := lt_of_block hu1
 have pc0 := alw (cQ 0 h.hp)
 have pc1 := alw (cQ 1 h.hp)
 have pc2 := alw (cQ 2 h.hp)
 have pc3 := alw (cQ 3 h.hp)
 have pc4 := alw (cQ 4 h.hp)
 have pc5 := alw (cQ 5 h.hp)
 have pc6 := alw (cQ 6 h.hp)
 have pc7 := alw (cQ 7 h.hp)
 have pc8 := alw (cQ 8 h.hp)
 have ue0 := alw (cQ 0 hu1)
 have ee0 := alw (cQ 0 h.he)
 have ef0 := alwF (o := 0) h.he
 have HS := Lh h
 obtain ⟨nk, nt, c, th, el⟩ := x
 dsimp only [Pg.PV.val] at *
 obtain ⟨ne, hne⟩ : ∃ z, z = Tj.nodeE F (Tj.usedBy pre) ⟨nk, nt, c, th, el⟩ := ⟨_, rfl⟩
 unfold Chk1P
 rw [← hne] at HCN ⊢
 obtain ⟨ap, hap⟩ : ∃ z, z = Tj.apl ⟨nk, nt, c, th, el⟩ := ⟨_, rfl⟩
 have HAP : Hid (∀ w, Calls Tryz.prog 84 #[.agg #[.int .i64 nk, .int .i64 nt, .slice ca c.length cc, .slice ta th tc, .slice ea el ec]] w (Rets w (.bool ap))) := Lh (fun w => by have h := applies_any ⟨nk, nt, c, th, el⟩ ca ta ea cc tc ec w; rw [← hap] at h; exact h)
 have HSN := Lh (Tj.usedBy_snoc pre ⟨nk, nt, c, th, el⟩)
 rw [← hap] at HSN
 have bnd := aH w (.cells #[.int .i64 nk, .int .i64 nt, .slice ca c.length cc, .slice ta th tc, .slice ea el ec] 101)
 have BND := Lh bnd
 have nd0 := alw (cQ 0 bnd)
 have nd1 := alw (cQ 1 bnd)
 have nd2 := alw (cQ 2 bnd)
 have nd3 := alw (cQ 3 bnd)
 have nd4 := alw (cQ 4 bnd)
 have n1 : ¬ be = w.heap.size := by omega
 have n2 : ¬ w.heap.size = be := by omega
 clear bnd h hc hF hu1 hu2 hne hap
 by_cases h0 : ne = 0
 ·subst h0
  go_enter Tryz.func82, Tryz.ntmps82
  go_wp2_with fail
  refine via (HCN.out _ grows) fun w3 x3 s3 => ?_
  have HS3 := Lh (HS.out.ext (((eR w).alloc _).trans x3))
  have HS4 := Lh (HS3.out.setE 0)
  have HK4 : Hid (KeepN (w.alloc (.cells #[.int .i64 nk, .int .i64 nt, .slice ca c.length cc, .slice ta th tc, .slice ea el ec] 101)) (w3.setCell ⟨be, 0, none⟩ (.int .i64 0))) := Lh ((KeepN.of_ext x3).trans (KeepN.set HS3.out.he (by decide) _))
  go_wp2_with fail
  refine (HAP.out _).mono ?_
  rintro e w5 ⟨rfl, x5⟩
  have HS5 := Lh (HS4.out.ext x5)
  have HK5 := Lh (HK4.out.trans (KeepN.of_ext x5))
  have hb5 := HK5.out _ _ _ BND.out
  have q1 := alw (cQ 1 hb5)
  have bn0 := alw (cQ 0 HS5.out.hn)
  have bn1 := alwF (o := 0) HS5.out.hn
  have ecast : ((pre.length + 1 : Nat) : Int) = (pre.length : Int) + 1 := by omega
  cases ap with
  | false =>
   have HS6 := Lh (HS5.out.setN (pre.length + 1))
   rw [ecast] at HS6
   have HK6 : Hid (KeepN w (w5.setCell ⟨bn, 0, none⟩ (.int .i64 ((pre.length : Int) + 1)))) := Lh ((KeepN.of_ext ((eR w).alloc (.cells #[.int .i64 nk, .int .i64 nt, .slice ca c.length cc, .slice ta th tc, .slice ea el ec] 101))).trans (HK5.out.trans (KeepN.set HS5.out.hn (by decide) _)))
   clear hb5 ecast
   go_wp2_with fail
   go_ret
   exact ⟨HK6.out, .inl ⟨by first | trivial | rfl, by first | rfl | trivial, by rw [HSN.out]; exact HS6.out⟩⟩
  | true =>
   obtain ⟨uv5, hu5, ho5⟩ := HS5.out.hu
   obtain ⟨ua5, uc5, rfl⟩ := own_slice ho5
   have u5 := alw (cQ 0 hu5)
   have HU5 := Lh hu5
   have HO5 := Lh (own_ext ho5 ((eR w5).alloc (.cells #[.int .i64 nt] 3)))
   have HS1 := Lh (src_one w5 (.int .i64 nt) 3 rfl)
   have hle5 : bu + 1 ≤ w5.heap.size := lt_of_block hu5
   have n3 : ¬ bu = bn := by omega
   have n4 : ¬ bn = bu := by omega
   clear hu5 ho5 hb5
   go_wp2_with (at_builtin; refine wpList_append_fresh rfl (.tmp 15) (.tmp 18) 29 rfl (bu + 1) 3 (.int .i64 0) 1 8 Tryz.underlying29 info_i64 rfl (by decide) _ (Tj.usedBy pre).length (i64s (Tj.usedBy pre)) rfl HO5.out _ 1 [.int .i64 nt] rfl HS1.out ?d1 ?d2 ?d3 ?_)
   case d1 => unfold maxLen; omega
   case d2 => omega
   case d3 => (try simp); omega
   intro v' w' hown hgr _
   have hk : ∀ k, k < bu + 1 → ∀ o, w5.heap[k]? = some o → w'.heap[k]? = some o := fun k hk o hc => by
    rw [hgr.block k (by rw [szA]; have := lt_of_block hc; omega) (fun hr => by have := (HO5.out.lt k hr.symm).1; omega)]
    exact ((eR w5).alloc _).heap hc
   have c6 := cQ 0 (hk bu (by omega) _ HU5.out)
   have f6 := free_of (o := 0) (hk bu (by omega) _ HU5.out)
   have c7 := cQ 0 (hk bn (by omega) _ HS5.out.hn)
   have f7 := free_of (o := 0) (hk bn (by omega) _ HS5.out.hn)
   have HS6 := Lh (((HS5.out.ext ((eR w5).alloc (.cells #[.int .i64 nt] 3))).setU (us' := Tj.usedBy pre ++ [nt]) (uv' := v') HO5.out (((eR w5).alloc _).heap HU5.out) hgr (by simpa [i64s] using hown)))
   have HS7 := Lh (HS6.out.setN (pre.length + 1))
   rw [ecast] at HS7
   have HK6 : Hid (KeepN w ((w'.setCell ⟨bu, 0, none⟩ v').setCell ⟨bn, 0, none⟩ (.int .i64 ((pre.length : Int) + 1)))) := Lh ((KeepN.of_ext ((eR w).alloc (.cells #[.int .i64 nk, .int .i64 nt, .slice ca c.length cc, .slice ta th tc, .slice ea el ec] 101))).trans (HK5.out.trans ((KeepN.of_ext ((eR w5).alloc _)).trans ((KeepN.grown HO5.out hgr (by decide)).trans ((KeepN.set (hk bu (by omega) _ HU5.out) (by decide) _).trans (KeepN.set HS6.out.hn (by decide) _))))))
   obtain ⟨o6, c8, rfl⟩ := own_slice hown
   clear hown hgr hk ecast
   go_wp2_with fail
   go_ret
   exact ⟨HK6.out, .inl ⟨by first | trivial | rfl, by first | rfl | trivial, by rw [HSN.out]; exact HS7.out⟩⟩
 ·have z1 : (ne != 0) = true := nT h0
  have H0 := Lh h0
  clear h0
  go_enter Tryz.func82, Tryz.ntmps82
  go_wp2_with fail
  refine via (HCN.out _ grows) fun w3 x3 s3 => ?_
  have HS3 := Lh (HS.out.ext (((eR w).alloc _).trans x3))
  have HS4 := Lh (HS3.out.setE ne)
  have HK4 : Hid (KeepN w (w3.setCell ⟨be, 0, none⟩ (.int .i64 ne))) := Lh ((KeepN.of_ext (((eR w).alloc _).trans x3)).trans (KeepN.set HS3.out.he (by decide) _))
  go_wp2_with fail
  go_ret
  exact ⟨HK4.out, .inr ⟨H0.out, rfl, HS4.out⟩⟩
/-- what preorder leaves of Check's variables -/
def PreP (W : World) (p : Pg.PV) (F : Tj.FP) (bp be bn bu : Nat) (pre l : List Tj.CN) (w : World) (e : Ending) (w' : World) : Prop := KeepN w w' ∧
 ((Tj.badN F pre l = none ∧ e = .returned (.bool true) ∧ ChkS W p bp be bn bu (pre ++ l).length (Tj.usedBy (pre ++ l)) 0 w') ∨
  (∃ r, Tj.badN F pre l = some r ∧ e = .returned (.bool false) ∧ ChkS W p bp be bn bu r.1.length (Tj.usedBy r.1) (Tj.nodeE F (Tj.usedBy r.1) r.2) w'))
theorem prechk_any {W : World} {p : Pg.PV} {F : Tj.FP} (hF : Tj.IsF W p F) {bp be bn bu : Nat} : ∀ (n : Nat) (v : Value) (l : List Tj.CN) (d m : Nat), Tj.Ctl n W v l d m → ∀ (pre : List Tj.CN) (w : World), ChkS W p bp be bn bu pre.length (Tj.usedBy pre) 0 w → pre.length + l.length ≤ 1048576 →
 Calls Tryz.prog 81 #[v, .func (.func 82) #[] #[.pointer (some ⟨bp, 0, none⟩), .pointer (some ⟨bu, 0, none⟩), .pointer (some ⟨be, 0, none⟩), .pointer (some ⟨bn, 0, none⟩)]] w (PreP W p F bp be bn bu pre l w) := by
 intro n
 induction n with
 | zero => intro v l d m h; exact h.elim
 | succ n ih =>
  intro v l d m h pre w hs hil
  rw [Tj.ctl_succ] at h
  obtain ⟨ns, hns, rfl, rfl, rfl⟩ := h
  obtain ⟨oa, c, rfl, hlc, hcm⟩ := hns.slice
  unfold maxLen at hcm
  have HNS := Lh hns
  have HIH := Lh ih
  have HS := Lh hs
  have HF := Lh hF
  clear hns ih hs hF
  unfold PreP
  go_enter Tryz.func81, Tryz.ntmps81
  go_wp2_with fail
  go_loopw [9] (fun q wr => ∃ k : Nat, k ≤ ns.length ∧ q = .int .i64 k ∧ Hid (ChkS W p bp be bn bu (pre ++ Tj.flat (ns.take k)).length (Tj.usedBy (pre ++ Tj.flat (ns.take k))) 0 wr ∧ KeepN w wr ∧ Tj.badN F pre (Tj.flat (ns.take k)) = none)) (fun q _ => ns.length - (intOf q).toNat)
  case atStart => exact ⟨0, Nat.zero_le _, rfl, Lh ⟨by show ChkS W p bp be bn bu (pre ++ []).length (Tj.usedBy (pre ++ [])) 0 w; rw [List.append_nil]; exact HS.out, KeepN.refl _, rfl⟩⟩
  case round =>
   obtain ⟨k, hk1, rfl, HZ⟩ := hrel
   have sx : Step W wr := ⟨HZ.out.1.x⟩
   by_cases hlt : k < ns.length
   ·obtain ⟨x, hk⟩ : ∃ x, ns[k]? = some x := ⟨_, gE hlt⟩
    obtain ⟨b, o, rfl, _, _⟩ := Rows.at HNS.out (by omega)
    obtain ⟨ca, cc, ta, tn, tc, ea, en, ec, _, hcx, htl, hel, ⟨rfl, rfl⟩, g0, g1, g2, g3, g4⟩ := Tj.nodes_at HNS.out k x hk rfl
    have y0 := alw g0
    have y1 := alw g1
    have y2 := alw g2
    have y3 := alw g3
    have y4 := alw g4
    have hft := Tj.flat_take hk
    have hsp := Tj.flat_split hk
    have hlen : (Tj.flat (ns.take k)).length + (1 + (x.tl.length + x.el.length)) ≤ (Tj.flat ns).length := by
     rw [hsp]; simp only [List.length_append, List.length_cons]; omega
    have hl1 := Tj.ctl_len htl
    have hl2 := Tj.ctl_len hel
    obtain ⟨P0, hP0⟩ : ∃ z, z = pre ++ Tj.flat (ns.take k) := ⟨_, rfl⟩
    have hP0l : P0.length = pre.length + (Tj.flat (ns.take k)).length := by rw [hP0, List.length_append]
    have HFT : Hid (Tj.flat (ns.take (k + 1)) = Tj.flat (ns.take k) ++ ([x.d] ++ (x.tl ++ x.el))) := Lh hft
    have HSP : Hid (∃ m, Tj.flat ns = (Tj.flat (ns.take k) ++ ([x.d] ++ (x.tl ++ x.el))) ++ m) := Lh ⟨_, hsp⟩
    have HB0 := Lh HZ.out.2.2
    have HCH : Hid (Chk1P W p F bp be bn bu P0 x.d = Chk1P W p F bp be bn bu P0 x.d) := Lh rfl
    have HV : Hid (∀ w, ChkS W p bp be bn bu P0.length (Tj.usedBy P0) 0 w → Calls Tryz.prog 82 #[.agg (Yq4 x ca cc ta tc ea ec), .pointer (some ⟨bp, 0, none⟩), .pointer (some ⟨bu, 0, none⟩), .pointer (some ⟨be, 0, none⟩), .pointer (some ⟨bn, 0, none⟩)] w (Chk1P W p F bp be bn bu P0 x.d w)) := Lh (fun w h => chk1_any HF.out P0 h (by omega) x.d hcx ta ea tc ec (by omega))
    have HTL : Hid (∀ w, ChkS W p bp be bn bu (P0 ++ [x.d]).length (Tj.usedBy (P0 ++ [x.d])) 0 w → Calls Tryz.prog 81 #[.slice ta x.d.th tc, .func (.func 82) #[] #[.pointer (some ⟨bp, 0, none⟩), .pointer (some ⟨bu, 0, none⟩), .pointer (some ⟨be, 0, none⟩), .pointer (some ⟨bn, 0, none⟩)]] w (PreP W p F bp be bn bu (P0 ++ [x.d]) x.tl w)) := Lh (fun w h => HIH.out _ _ _ _ htl _ w h (by rw [List.length_append]; simp only [List.length_cons, List.length_nil]; omega))
    have HEL : Hid (∀ w, ChkS W p bp be bn bu (P0 ++ [x.d] ++ x.tl).length (Tj.usedBy (P0 ++ [x.d] ++ x.tl)) 0 w → Calls Tryz.prog 81 #[.slice ea x.d.el ec, .func (.func 82) #[] #[.pointer (some ⟨bp, 0, none⟩), .pointer (some ⟨bu, 0, none⟩), .pointer (some ⟨be, 0, none⟩), .pointer (some ⟨bn, 0, none⟩)]] w (PreP W p F bp be bn bu (P0 ++ [x.d] ++ x.tl) x.el w)) := Lh (fun w h => HIH.out _ _ _ _ hel _ w h (by simp only [List.length_append, List.length_cons, List.length_nil]; omega))
    have HP0 := Lh hP0
    have bn' := aH wr (.cells (Yq4 x ca cc ta tc ea ec) 101)
    have BN := Lh bn'
    have m0 := alw (cQ 0 bn')
    have m1 := alw (cQ 1 bn')
    have m2 := alw (cQ 2 bn')
    have m3 := alw (cQ 3 bn')
    have m4 := alw (cQ 4 bn')
    have HC1 : Hid (ChkS W p bp be bn bu P0.length (Tj.usedBy P0) 0 (wr.alloc (.cells (Yq4 x ca cc ta tc ea ec) 101))) := Lh (by have h := HZ.out.1.ext ((eR wr).alloc (.cells (Yq4 x ca cc ta tc ea ec) 101)); rw [hP0]; exact h)
    have HK0 : Hid (KeepN w (wr.alloc (.cells (Yq4 x ca cc ta tc ea ec) 101))) := Lh (HZ.out.2.1.trans (KeepN.of_ext ((eR _).alloc _)))
    clear bn' hk hcx htl hel g0 g1 g2 g3 g4 hft hsp hlen hl1 hl2 hP0l hP0 HCH
    go_wp2_with fail
    refine (HV.out _ HC1.out).mono ?_
    rintro e w5 ⟨hk5, ⟨hz5, rfl, hs5⟩ | ⟨hz5, rfl, hs5⟩⟩
    ·have h5 := hk5 _ _ _ BN.out
     have t3 : w5.cell? ⟨wr.heap.size, 3, none⟩ = some (.slice ta x.d.th tc) := cell_of h5
     have HS5 : Hid (ChkS W p bp be bn bu (P0 ++ [x.d]).length (Tj.usedBy (P0 ++ [x.d])) 0 w5) := Lh (by rw [List.length_append]; exact hs5)
     have HK5 := Lh hk5
     have H5 := Lh h5
     have HZ5 := Lh hz5
     clear hs5 hk5 h5 hz5
     go_wp2_with fail
     refine (HTL.out _ HS5.out).mono ?_
     rintro e w6 ⟨hk6, ⟨hz6, rfl, hs6⟩ | ⟨r, hz6, rfl, hs6⟩⟩
     ·have h6 := hk6 _ _ _ H5.out
      have t4 : w6.cell? ⟨wr.heap.size, 4, none⟩ = some (.slice ea x.d.el ec) := cell_of h6
      have HS6 := Lh hs6
      have HK6 := Lh hk6
      have HZ6 := Lh hz6
      clear hs6 hk6 h6 hz6
      go_wp2_with fail
      refine (HEL.out _ HS6.out).mono ?_
      rintro e w7 ⟨hk7, ⟨hz7, rfl, hs7⟩ | ⟨r, hz7, rfl, hs7⟩⟩
      ·have HS7 := Lh hs7
       have HK7 := Lh hk7
       have HZ7 := Lh hz7
       clear hs7 hk7 hz7
       go_wp2_with fail
       go_roundw
       case rel =>
        have e1 : pre ++ Tj.flat (ns.take (k + 1)) = P0 ++ [x.d] ++ x.tl ++ x.el := by rw [HFT.out, HP0.out]; simp only [List.append_assoc]
        refine ⟨k + 1, by omega, by go_num, Lh ⟨by rw [e1]; exact HS7.out, HK0.out.trans ((HK5.out.trans HK6.out).trans HK7.out), ?_⟩⟩
        rw [HFT.out, Tj.badN_none HB0.out, ← HP0.out, List.singleton_append, Tj.badN_cons, if_pos HZ5.out, Tj.badN_none HZ6.out]
        exact HZ7.out
       case measure => simp [intOf]; omega
      ·have HS7 := Lh hs7
       have HK7 := Lh hk7
       have HZ7 := Lh hz7
       clear hs7 hk7 hz7
       go_wp2_with fail
       go_ret
       refine ⟨HK0.out.trans ((HK5.out.trans HK6.out).trans HK7.out), .inr ⟨r, ?_, by first | rfl | trivial, HS7.out⟩⟩
       obtain ⟨m, hm⟩ := HSP.out
       rw [hm, Tj.badN_stop (r := r)]
       rw [Tj.badN_none HB0.out, ← HP0.out, List.singleton_append, Tj.badN_cons, if_pos HZ5.out, Tj.badN_none HZ6.out]
       exact HZ7.out
     ·have HS6 := Lh hs6
      have HK6 := Lh hk6
      have HZ6 := Lh hz6
      clear hs6 hk6 hz6
      go_wp2_with fail
      go_ret
      refine ⟨HK0.out.trans (HK5.out.trans HK6.out), .inr ⟨r, ?_, by first | rfl | trivial, HS6.out⟩⟩
      obtain ⟨m, hm⟩ := HSP.out
      rw [hm, Tj.badN_stop (r := r)]
      rw [Tj.badN_none HB0.out, ← HP0.out, List.singleton_append, Tj.badN_cons, if_pos HZ5.out, Tj.badN_stop HZ6.out]
    ·have HS5 := Lh hs5
     have HK5 := Lh hk5
     have HZ5 := Lh hz5
     clear hs5 hk5 hz5
     go_wp2_with fail
     go_ret
     refine ⟨HK0.out.trans HK5.out, .inr ⟨(P0, x.d), ?_, by first | rfl | trivial, HS5.out⟩⟩
     obtain ⟨m, hm⟩ := HSP.out
     rw [hm, Tj.badN_stop (r := (P0, x.d))]
     rw [Tj.badN_none HB0.out, ← HP0.out, List.singleton_append, Tj.badN_cons, if_neg HZ5.out]
   ·obtain rfl : k = ns.length := by omega
    go_wp2_with fail
    go_ret
    have h := HZ.out
    rw [List.take_length] at h
    exact ⟨h.2.1, .inl ⟨h.2.2, by first | rfl | trivial, h.1⟩⟩
theorem ccheck_any {W : World} {p : Pg.PV} {F : Tj.FP} (hG : Tj.IsG W p F) : Calls Tryz.prog 54 #[p.val] W (AtP W (Tj.ctlE F)) := by
 obtain ⟨hF, hcs, _⟩ := hG
 have HF := Lh hF
 obtain ⟨a1, a2, a3, a4, a5, a6, a7, a8, m1, m2, m3, m4, m5, m6, n7, m7, m8, hf⟩ := hF.form
 obtain ⟨rfl, hnm, hhs, hmd, hrs, has, hts, hss, hct, hdp, l1, l2, l3, l4, l5, l6, l7, l8⟩ := hf
 obtain ⟨n, hct⟩ := hct
 obtain ⟨R, hR⟩ : ∃ z, z = Tj.ctlE F := ⟨_, rfl⟩
 rw [← hR]
 unfold Tj.ctlE at hR
 dsimp only [Pg.PV.val]
 have HCT := Lh (fun (w : World) (hx : Ext W w) => count_any (hct.ext hx) hcs)
 have HNE : Hid (∀ w, Ext W w → Calls Tryz.prog 80 #[.slice a7 n7 m7] w (Rets w (.int .i64 F.nest))) := Lh (fun w hx => nest_any n _ _ _ _ hct hcs w hx)
 have HPR : Hid (∀ (bn : Nat) (w : World), ChkS W ⟨.string F.nm, .slice a1 F.P.hs.length m1, .slice a2 F.P.md.length m2, .slice a3 F.rs.length m3, .slice a4 F.ac.length m4, .slice a5 F.ts.length m5, .slice a6 F.ss.length m6, .slice a7 n7 m7, .slice a8 F.P.dp.length m8⟩ W.heap.size (W.heap.size + 1) bn (bn + 1) 0 [] 0 w → Calls Tryz.prog 81 #[.slice a7 n7 m7, .func (.func 82) #[] #[.pointer (some ⟨W.heap.size, 0, none⟩), .pointer (some ⟨bn + 1, 0, none⟩), .pointer (some ⟨W.heap.size + 1, 0, none⟩), .pointer (some ⟨bn, 0, none⟩)]] w (PreP W ⟨.string F.nm, .slice a1 F.P.hs.length m1, .slice a2 F.P.md.length m2, .slice a3 F.rs.length m3, .slice a4 F.ac.length m4, .slice a5 F.ts.length m5, .slice a6 F.ss.length m6, .slice a7 n7 m7, .slice a8 F.P.dp.length m8⟩ F W.heap.size (W.heap.size + 1) bn (bn + 1) [] F.cs w)) := Lh (fun bn w h => prechk_any HF.out n _ _ _ _ hct [] w h (by simp only [List.length_nil]; omega))
 have hnl := Tj.ctl_deep hct
 have hmf : ∀ (fn : Fn) (first cap : Array Value) (w : World), (Instr.makeFunc fn first cap).run Tryz.prog w = .ok (.func fn first cap) w := fun _ _ _ _ => rfl
 have bx := aH W (.cells (Yq0 F a1 m1 a2 m2 a3 m3 a4 m4 a5 m5 a6 m6 a7 m7 n7 a8 m8) 31)
 have k0 := alw (cQ 0 bx)
 have k1 := alw (cQ 1 bx)
 have k2 := alw (cQ 2 bx)
 have k3 := alw (cQ 3 bx)
 have k4 := alw (cQ 4 bx)
 have k5 := alw (cQ 5 bx)
 have k6 := alw (cQ 6 bx)
 have k7 := alw (cQ 7 bx)
 have k8 := alw (cQ 8 bx)
 clear bx
 have bp := aH W (.cells (Yq0 F a1 m1 a2 m2 a3 m3 a4 m4 a5 m5 a6 m6 a7 m7 n7 a8 m8) 31)
 have BP := Lh (((eR _).alloc (.cells #[.int .i64 0] 44)).heap bp)
 have be := aH (W.alloc (.cells (Yq0 F a1 m1 a2 m2 a3 m3 a4 m4 a5 m5 a6 m6 a7 m7 n7 a8 m8) 31)) (.cells #[.int .i64 0] 44)
 rw [szA] at be
 have BE := Lh be
 have e0 := alw (cQ 0 be)
 have ef := alwF (o := 0) be
 clear bp be hnm hhs hmd hrs has hts hss hct hdp hF
 by_cases h24 : 24 < F.cs.length
 ·have HE : Hid (R = 12) := Lh (by rw [hR, if_pos h24])
  have d1 : decide ((24 : Int) < (F.cs.length : Int)) = true := dTt (by omega)
  clear hR HPR
  go_enter Tryz.func54, Tryz.ntmps54
  go_wp2_with fail
  refine via (HCT.out _ grows) fun w3 x3 s3 => ?_
  have HX : Hid (Ext W (w3.setCell ⟨W.heap.size + 1, 0, none⟩ (.int .i64 12))) := Lh ((grows (a := W) (b := w3)).setCell (by show W.heap.size ≤ W.heap.size + 1; omega) _)
  have rc : (w3.setCell ⟨W.heap.size + 1, 0, none⟩ (.int .i64 12)).cell? ⟨W.heap.size + 1, 0, none⟩ = some (.int .i64 12) := cell_of (setCell_heap (x3.heap BE.out))
  go_wp2_with fail
  exact bodyPost_ret (v := .tuple #[.int .i64 (-1), .int .i64 (12)]) (by simp [results, Tryz.results54, go_sem, rc]) rfl (at_ret _ (by rw [HE.out]) HX.out)
 ·rw [if_neg h24] at hR
  have d1 : decide ((24 : Int) < (F.cs.length : Int)) = false := dF (by omega)
  by_cases h6 : 6 < F.nest
  ·have HE : Hid (R = 14) := Lh (by rw [hR, if_pos h6])
   have d2 : decide ((6 : Int) < (F.nest : Int)) = true := dTt (by omega)
   clear hR HPR
   go_enter Tryz.func54, Tryz.ntmps54
   go_wp2_with fail
   refine via (HCT.out _ grows) fun w3 x3 s3 => ?_
   go_wp2_with fail
   refine via (HNE.out _ grows) fun w4 x4 s4 => ?_
   have HX : Hid (Ext W (w4.setCell ⟨W.heap.size + 1, 0, none⟩ (.int .i64 14))) := Lh ((grows (a := W) (b := w4)).setCell (by show W.heap.size ≤ W.heap.size + 1; omega) _)
   have rc : (w4.setCell ⟨W.heap.size + 1, 0, none⟩ (.int .i64 14)).cell? ⟨W.heap.size + 1, 0, none⟩ = some (.int .i64 14) := cell_of (setCell_heap (x4.heap (x3.heap BE.out)))
   go_wp2_with fail
   exact bodyPost_ret (v := .tuple #[.int .i64 (-1), .int .i64 (14)]) (by simp [results, Tryz.results54, go_sem, rc]) rfl (at_ret _ (by rw [HE.out]) HX.out)
  ·rw [if_neg h6] at hR
   have d2 : decide ((6 : Int) < (F.nest : Int)) = false := dF (by omega)
   have HR := Lh hR
   clear hR
   go_enter Tryz.func54, Tryz.ntmps54
   go_wp2_with fail
   refine via (HCT.out _ grows) fun w3 x3 s3 => ?_
   go_wp2_with fail
   refine via (HNE.out _ grows) fun w4 x4 s4 => ?_
   have hle4 : W.heap.size + 1 + 1 ≤ w4.heap.size := by
    have h := (x3.trans x4).le
    rw [szA, szA] at h; exact h
   have hc1 := aH w4 (.cells #[.int .i64 0] 3)
   have hc2 := aH (w4.alloc (.cells #[.int .i64 0] 3)) (.cells #[.slice none 0 0] 29)
   rw [szA] at hc2
   have HS0 : Hid (ChkS W ⟨.string F.nm, .slice a1 F.P.hs.length m1, .slice a2 F.P.md.length m2, .slice a3 F.rs.length m3, .slice a4 F.ac.length m4, .slice a5 F.ts.length m5, .slice a6 F.ss.length m6, .slice a7 n7 m7, .slice a8 F.P.dp.length m8⟩ W.heap.size (W.heap.size + 1) w4.heap.size (w4.heap.size + 1) 0 [] 0 ((w4.alloc (.cells #[.int .i64 0] 3)).alloc (.cells #[.slice none 0 0] 29))) := Lh
    ⟨grows, (grows (a := ((W.alloc (.cells (Yq0 F a1 m1 a2 m2 a3 m3 a4 m4 a5 m5 a6 m6 a7 m7 n7 a8 m8) 31)).alloc (.cells #[.int .i64 0] 44))) (b := ((w4.alloc (.cells #[.int .i64 0] 3)).alloc (.cells #[.slice none 0 0] 29)))).heap BP.out, (grows (a := ((W.alloc (.cells (Yq0 F a1 m1 a2 m2 a3 m3 a4 m4 a5 m5 a6 m6 a7 m7 n7 a8 m8) 31)).alloc (.cells #[.int .i64 0] 44))) (b := ((w4.alloc (.cells #[.int .i64 0] 3)).alloc (.cells #[.slice none 0 0] 29)))).heap BE.out,
     ((eR _).alloc _).heap hc1, ⟨.slice none 0 0, hc2, World.ownsRow_nil _ _ _ _⟩, by omega⟩
   clear hc1 hc2
   go_wp2_with fail
   refine (HPR.out _ _ HS0.out).mono ?_
   rintro e w5 ⟨hk5, ⟨hz5, rfl, hs5⟩ | ⟨r, hz5, rfl, hs5⟩⟩
   ·have HE : Hid (R = 0) := Lh (by rw [HR.out, Tj.scan_bad, hz5])
    have q0 := cQ 0 hs5.he
    have qf := free_of (o := 0) hs5.he
    have HX : Hid (Ext W (w5.setCell ⟨W.heap.size + 1, 0, none⟩ (.int .i64 0))) := Lh (hs5.x.setCell (by show W.heap.size ≤ W.heap.size + 1; omega) _)
    have rc : (w5.setCell ⟨W.heap.size + 1, 0, none⟩ (.int .i64 0)).cell? ⟨W.heap.size + 1, 0, none⟩ = some (.int .i64 0) := cell_of (setCell_heap hs5.he)
    clear hs5 hk5 hz5
    go_wp2_with fail
    exact bodyPost_ret (v := .tuple #[.int .i64 (0), .int .i64 (0)]) (by simp [results, Tryz.results54, go_sem, rc]) rfl (at_ret _ (by rw [HE.out]) HX.out)
   ·have hne := Tj.badN_ne hz5
    obtain ⟨ne, hnE⟩ : ∃ z, z = Tj.nodeE F (Tj.usedBy r.1) r.2 := ⟨_, rfl⟩
    have HE : Hid (R = ne) := Lh (by rw [HR.out, Tj.scan_bad, hz5, hnE])
    rw [← hnE] at hs5 hne
    have z1 : (ne != 0) = true := nT hne
    obtain ⟨rn, hrn⟩ : ∃ z, z = r.1.length := ⟨_, rfl⟩
    rw [← hrn] at hs5
    have q0 := cQ 0 hs5.he
    have qf := free_of (o := 0) hs5.he
    have qn := cQ 0 hs5.hn
    have HX : Hid (Ext W (w5.setCell ⟨W.heap.size + 1, 0, none⟩ (.int .i64 ne))) := Lh (hs5.x.setCell (by show W.heap.size ≤ W.heap.size + 1; omega) _)
    have rc : (w5.setCell ⟨W.heap.size + 1, 0, none⟩ (.int .i64 ne)).cell? ⟨W.heap.size + 1, 0, none⟩ = some (.int .i64 ne) := cell_of (setCell_heap hs5.he)
    clear hs5 hk5 hz5 hne hnE hrn
    go_wp2_with fail
    go_region
    go_wp2_with fail
    exact bodyPost_ret (v := .tuple #[.int .i64 rn, .int .i64 ne]) (by simp [results, Tryz.results54, go_sem, rc]) rfl (at_ret _ (by rw [HE.out]) HX.out.drew)
/-- a slice of strings -/
def Sts (w : World) (v : Value) (l : List ByteArray) : Prop := Src w v 1 l.length (l.map .string) ∧ l.length ≤ maxLen
theorem Sts.ext {w w' : World} {v : Value} {l : List ByteArray} (h : Sts w v l) (hx : Ext w w') : Sts w' v l := ⟨h.1.ext hx, h.2⟩
theorem sts_slice {w : World} {v : Value} {l : List ByteArray} (h : Sts w v l) : ∃ oa c, v = .slice oa l.length c := by
 obtain ⟨oa, c, rfl, _⟩ := h.1.slice; exact ⟨oa, c, rfl⟩
theorem sts_at {w : World} {oa : Option Addr} {n c : Nat} {l : List ByteArray} (h : Sts w (.slice oa n c) l) (hl : 0 < l.length) : ∃ b o, oa = some ⟨b, o, none⟩ ∧ ∀ j x, l[j]? = some x → ∀ w' [Grows w w'], w'.cell? ⟨b, o + j, none⟩ = some (.string x) := by
 cases oa with
 | none =>
  rcases h.1.2.2 with ⟨_, h0⟩ | ⟨_, _, h0, _⟩
  ·omega
  ·simp at h0
 | some ad =>
  obtain ⟨ea, _, ca⟩ := h.1.at hl
  obtain ⟨ab, ao, asp⟩ := ad
  simp only [Addr.mk.injEq, true_and] at ea
  subst ea
  exact ⟨ab, ao, rfl, fun j x hj => alw (ca j _ (by simp [hj]))⟩
/-- what a check leaves that gives up by a panic: nothing, or the panic with the error -/
def Thr (W : World) (x : Int) (e : Ending) (w' : World) : Prop := Ext W w' ∧ ((x = 0 ∧ e = .returned (.tuple #[])) ∨
 (x ≠ 0 ∧ ∃ a b c : Int, e = .panicked [{ v := .iface 103 (.agg #[.int .i64 x, .int .i64 a, .int .i64 b, .int .i64 c]), recovered := false }]))
theorem same_sym (a b : ByteArray) : Hd.same a b = Hd.same b a := by
 rw [Bool.eq_iff_iff, Hd.same_iff, Hd.same_iff]; exact eq_comm
theorem require_any (x a b c : Int) (W : World) : Calls Tryz.prog 34 #[.int .i64 x, .int .i64 a, .int .i64 b, .int .i64 c] W (Thr W x) := by
 unfold Thr
 by_cases h : x = 0
 ·subst h
  go_enter Tryz.func34, Tryz.ntmps34
  go_wp2_with fail
  first | go_end0 | skip
  exact ⟨eR _, .inl ⟨by first | rfl | trivial, by first | rfl | trivial⟩⟩
 ·have z1 : (x != 0) = true := nT h
  have H := Lh h
  have hpan : ∀ (t : TypeId) (v : Value) (w : World), (Instr.panic (.iface t v)).run Tryz.prog w = .halt (.panic (.iface t v)) w := fun _ _ _ => rfl
  clear h
  go_enter Tryz.func34, Tryz.ntmps34
  go_wp2_with fail
  refine ⟨rfl, eR _, .inr ⟨H.out, a, b, c, rfl⟩⟩
theorem when_any (b : Bool) (x : Int) (W : World) : Calls Tryz.prog 35 #[.bool b, .int .i64 x] W (Rets W (.int .i64 (if b then x else 0))) := by
 cases b with
 | true =>
  go_enter Tryz.func35, Tryz.ntmps35
  go_wp2_with fail
  go_ret
  exact ⟨rfl, eR _⟩
 | false =>
  go_enter Tryz.func35, Tryz.ntmps35
  go_wp2_with fail
  go_ret
  exact ⟨rfl, eR _⟩
theorem pident_any (s : ByteArray) (hs : s.size ≤ maxLen) (W : World) : Calls Tryz.prog 36 #[.string s] W (Rets W (.bool (!Id.ok s))) := by
 have H := Lh (fun W => ident_any s W hs)
 clear hs
 go_enter Tryz.func36, Tryz.ntmps36
 go_wp2_with fail
 refine (H.out _).mono ?_
 rintro e w1 ⟨rfl, rfl⟩
 go_wp2_with fail
 go_ret
 exact ⟨rfl, eR _⟩
theorem pwidth_any (x : Int) (W : World) : Calls Tryz.prog 43 #[.int .i64 x] W (Rets W (.bool (decide (x < 1 ∨ 32 < x)))) := by
 by_cases h1 : x < 1
 ·rw [dTt (p := x < 1 ∨ 32 < x) (.inl h1)]
  have d1 : decide (x < 1) = true := dTt (by omega)
  clear h1
  go_enter Tryz.func43, Tryz.ntmps43
  go_wp2_with fail
  go_ret
  exact ⟨rfl, eR _⟩
 ·have d1 : decide (x < 1) = false := dF (by omega)
  by_cases h2 : 32 < x
  ·rw [dTt (p := x < 1 ∨ 32 < x) (.inr h2)]
   have d2 : decide (32 < x) = true := dTt (by omega)
   clear h1 h2
   go_enter Tryz.func43, Tryz.ntmps43
   go_wp2_with fail
   go_ret
   exact ⟨rfl, eR _⟩
  ·rw [dF (p := x < 1 ∨ 32 < x) (by omega)]
   have d2 : decide (32 < x) = false := dF (by omega)
   clear h1 h2
   go_enter Tryz.func43, Tryz.ntmps43
   go_wp2_with fail
   go_ret
   exact ⟨rfl, eR _⟩
theorem sindex_any {W : World} {v : Value} {l : List ByteArray} (h : Sts W v l) (x : ByteArray) : Calls Tryz.prog 105 #[v, .string x] W fun e W' => (∃ r : Int, e = .returned (.int .i64 r) ∧ decide (0 ≤ r) = l.any (fun y => Hd.same y x)) ∧ W = W' := by
 obtain ⟨oa, c, rfl⟩ := sts_slice h
 have hm := h.2
 unfold maxLen at hm
 have H := Lh h
 clear h
 go_enter Tryz.func105, Tryz.ntmps105
 go_wp2_with fail
 go_loop [8] (fun i => ∃ k : Nat, k ≤ l.length ∧ i = .int .i64 k ∧ Hid (∀ (j : Nat) y, j < k → l[j]? = some y → Hd.same y x = false)) (fun i => l.length - (intOf i).toNat)
 case atStart => exact ⟨0, Nat.zero_le _, rfl, Lh (by intro j y hj; omega)⟩
 case round =>
  obtain ⟨k, hk, rfl, HZ⟩ := hrel
  by_cases hlt : k < l.length
  ·obtain ⟨y, hy⟩ : ∃ y, l[k]? = some y := ⟨_, gE hlt⟩
   obtain ⟨b, o, rfl, hc⟩ := sts_at H.out (by omega)
   have f1 := hc k y hy
   have HY := Lh hy
   clear hc hy
   cases hs : Hd.same y x with
   | false =>
    have HS := Lh hs
    have hne : (x.toList == y.toList) = false := by rw [same_sym] at hs; exact hs
    clear hs
    go_wp2_with fail
    go_round
    case rel =>
     refine ⟨k + 1, by omega, by go_num, Lh (fun j z hj hz => ?_)⟩
     rcases Nat.lt_or_ge j k with h1 | h1
     ·exact HZ.out j z h1 hz
     ·obtain rfl : j = k := by omega
      rw [HY.out] at hz
      obtain rfl := Option.some.inj hz
      exact HS.out
    case measure => simp [intOf]; omega
   | true =>
    have HS := Lh hs
    have hne : (x.toList == y.toList) = true := by rw [same_sym] at hs; exact hs
    clear hs
    go_wp2_with fail
    go_ret
    refine ⟨⟨_, rfl, ?_⟩, rfl⟩
    have hz : l.any (fun y => Hd.same y x) = true := List.any_eq_true.2 ⟨_, List.mem_of_getElem? HY.out, HS.out⟩
    rw [hz]; simp
  ·obtain rfl : k = l.length := by omega
   go_wp2_with fail
   go_ret
   refine ⟨⟨_, rfl, ?_⟩, rfl⟩
   have hz : l.any (fun y => Hd.same y x) = false := by
    rw [← Bool.not_eq_true, List.any_eq_true]
    rintro ⟨y, hy, he⟩
    obtain ⟨j, hj, rfl⟩ := List.mem_iff_getElem.1 hy
    rw [HZ.out j _ hj (gE hj)] at he
    cases he
   rw [hz]; decide
theorem scont_any {W : World} {v : Value} {l : List ByteArray} (h : Sts W v l) (x : ByteArray) : Calls Tryz.prog 71 #[v, .string x] W (Rets W (.bool (l.any (fun y => Hd.same y x)))) := by
 obtain ⟨oa, c, rfl⟩ := sts_slice h
 have H := Lh h
 clear h
 go_enter Tryz.func71, Tryz.ntmps71
 go_wp2_with fail
 refine (sindex_any H.out x).mono ?_
 rintro e w1 ⟨⟨r, rfl, hr⟩, rfl⟩
 have HR := Lh hr
 clear hr
 go_wp2_with fail
 go_ret
 exact ⟨ret_bool (by rw [← HR.out]), eR _⟩
theorem sts_take {w : World} {oa : Option Addr} {n c j : Nat} {l : List ByteArray} (h : Sts w (.slice oa n c) l) (hj : j ≤ l.length) (hl : 0 < l.length) : Sts w (.slice oa j c) (l.take j) := by
 obtain ⟨⟨h1, h2, h3⟩, h4⟩ := h
 have hlen : (l.take j).length = j := by rw [List.length_take]; omega
 refine ⟨⟨by simp, fun u hu => h2 u ?_, ?_⟩, by omega⟩
 ·rw [List.map_take] at hu; exact List.mem_of_mem_take hu
 ·rcases h3 with ⟨_, h0⟩ | ⟨ad, c', he, hc⟩
  ·omega
  ·simp only [Value.slice.injEq] at he
   obtain ⟨rfl, _, rfl⟩ := he
   refine .inr ⟨ad, c, by rw [hlen], fun i u hi => hc i u ?_⟩
   rw [List.map_take, List.getElem?_take] at hi
   split at hi
   ·exact hi
   ·cases hi
theorem repeated_any {W : World} {oa : Option Addr} {c : Nat} {l : List ByteArray} (h : Sts W (.slice oa l.length c) l) (hc : l.length ≤ c) (i : Nat) (hi : i < l.length) : Calls Tryz.prog 40 #[.slice oa l.length c, .int .i64 i] W (Rets W (.bool (Tj.rep l i))) := by
 have hm := h.2
 unfold maxLen at hm
 obtain ⟨x, hx⟩ : ∃ x, l[i]? = some x := ⟨_, gE hi⟩
 obtain ⟨b, o, rfl, hcell⟩ := sts_at h (by omega)
 have y0 := hcell i x hx
 have HT := Lh (sts_take h (show i ≤ l.length by omega) (by omega))
 have hrep : Tj.rep l i = (l.take i).any (fun y => Hd.same y x) := by unfold Tj.rep; rw [List.getD_eq_getElem?_getD, hx]; rfl
 rw [hrep]
 have hic : (i : Int) ≤ c := by omega
 obtain ⟨R, hR⟩ : ∃ z, z = (l.take i).any (fun y => Hd.same y x) := ⟨_, rfl⟩
 have HC : Hid (∀ w, Ext W w → Calls Tryz.prog 71 #[.slice (some ⟨b, o, none⟩) i c, .string x] w (Rets w (.bool R))) := Lh (fun w hx => by have h := scont_any (HT.out.ext hx) x; rw [← hR] at h; exact h)
 rw [← hR]
 clear h hx hcell hrep hR
 go_enter Tryz.func40, Tryz.ntmps40
 go_wp2_with fail
 refine wp_region_later (W := W) (by kernel_rfl) (by kernel_rfl) (eR _) ?_
 repeat (go_big_quiet_step (first | (go_at_call 71; exact Rets.later_at (HC.out _ grows)) | fail))
 refine wpQuiet_nil ?_
 intro w9 hx9
 have s9 := Sm hx9
 go_wp2_with fail
 go_ret
 exact ⟨rfl, grows⟩
theorem own_cap {w : World} {B n m c : Nat} {e : TypeId} {sz : Nat} {oa : Option Addr} {xs : List Value} (h : w.ownsRow B e sz (.slice oa m c) n xs) : n ≤ c := by
 rcases h.2 with ⟨h1, rfl⟩ | ⟨g, cap, cur, h1, hg, hh, h2, h3, _⟩
 ·simp only [Value.slice.injEq] at h1; omega
 ·simp only [Value.slice.injEq] at h1; omega
/-- names in new memory -/
def StsP (W : World) (l : List ByteArray) (e : Ending) (w' : World) : Prop := ∃ oa c, e = .returned (.slice oa l.length c) ∧ Ext W w' ∧ Sts w' (.slice oa l.length c) l ∧ l.length ≤ c
theorem info_str : (Tryz.prog.info? 9).map (fun i => (i.zero, i.size, i.bytes)) = some (some (.string ⟨#[]⟩), 1, 16) := by kernel_rfl
def strs (l : List ByteArray) : List Value := l.map .string
theorem strs_one (l : List ByteArray) : ∀ u ∈ strs l, u.oneCell' = true := by
 intro u hu; obtain ⟨x, _, rfl⟩ := List.mem_map.1 hu; rfl
theorem headerName_any (s : ByteArray) (v1 : Value) (W : World) : Calls Tryz.prog 38 #[.agg #[.string s, v1]] W (Rets W (.string s)) := by
 have bx := aH W (.cells #[.string s, v1] 81)
 have k0 := alw (cQ 0 bx)
 have k1 := alw (cQ 1 bx)
 clear bx
 go_enter Tryz.func38, Tryz.ntmps38
 go_wp2_with fail
 go_ret
 exact ⟨rfl, grows⟩
theorem namesHeader_any {W : World} {v : Value} {ds : List Hd.Hdr} (h : Rows W 2 Hd.HdrR v ds) (hd : ds.length ≤ 1000) : Calls Tryz.prog 37 #[v, .func (.func 38) #[] #[]] W (StsP W (ds.map (fun h : Hd.Hdr => h.1))) := by
 obtain ⟨oa, c, rfl, hlc, hcm⟩ := h.slice
 unfold maxLen at hcm
 have H := Lh h
 clear h
 go_enter Tryz.func37, Tryz.ntmps37
 go_wp2_with fail
 go_loopw [5, 10] (fun o q wr => ∃ k : Nat, k ≤ ds.length ∧ q = .int .i64 k ∧ ∃ oo co, o = .slice oo k co ∧ Hid (Ext W wr ∧ wr.ownsRow W.heap.size 9 1 o k (strs ((ds.take k).map (fun h : Hd.Hdr => h.1))))) (fun _ q _ => ds.length - (intOf q).toNat)
 case atStart => exact ⟨0, Nat.zero_le _, rfl, _, _, rfl, Lh ⟨eR _, World.ownsRow_nil _ _ _ _⟩⟩
 case round =>
  obtain ⟨k, hk, rfl, oo, co, rfl, HZ⟩ := hrel
  have sx : Step W wr := ⟨HZ.out.1⟩
  by_cases hlt : k < ds.length
  ·obtain ⟨⟨hn, fs⟩, hx⟩ : ∃ x, ds[k]? = some x := ⟨_, gE hlt⟩
   obtain ⟨b, o, rfl, _, _⟩ := Rows.at H.out (by omega)
   obtain ⟨fa, fc, u0, u1, _⟩ := hdrs_at H.out k hn fs hx rfl
   have hsn : strs ((ds.take (k + 1)).map (fun h : Hd.Hdr => h.1)) = strs ((ds.take k).map (fun h : Hd.Hdr => h.1)) ++ [.string hn] := by
    rw [List.take_add_one, hx]; simp [strs]
   have HSN := Lh hsn
   have hle : W.heap.size ≤ wr.heap.size := HZ.out.1.le
   have bx := aH wr (.cells #[.string hn, .slice fa fs.length fc] 81)
   have m0 := alw (cQ 0 bx)
   have m1 := alw (cQ 1 bx)
   clear bx
   clear hx hsn
   go_wp2_with fail
   refine via (headerName_any _ _ _) fun w7 x7 s7 => ?_
   have hle7 := x7.le
   simp only [szA] at hle7
   have HS1 := Lh (src_one w7 (.string hn) 9 rfl)
   have HO1 := Lh (own_now HZ.out.2 (w := w7.alloc (.cells #[.string hn] 9)))
   go_wp2_with (at_builtin; refine wpList_append_fresh rfl (.tmp 14) (.tmp 18) 122 rfl W.heap.size 9 (.string ⟨#[]⟩) 1 16 Tryz.underlying122 info_str rfl (by decide) _ k (strs ((ds.take k).map (fun h : Hd.Hdr => h.1))) rfl HO1.out _ 1 [.string hn] rfl HS1.out ?d1 ?d2 ?d3 ?_)
   case d1 => unfold maxLen; omega
   case d2 => omega
   case d3 => (try simp); omega
   intro v' w' hown hgr _
   have hx3 : Ext W w' := (grows (a := W) (b := w7.alloc (.cells #[.string hn] 9))).mod (grown_mod hgr) (fun q hq => (HO1.out.lt q hq.symm).1)
   have HX3 := Lh hx3
   obtain ⟨o3, c3, rfl⟩ := own_slice hown
   have HA3 := Lh hown
   clear hgr hown hx3
   go_wp2_with fail
   go_roundw
   case rel => exact ⟨k + 1, by omega, by go_num, o3, c3, rfl, Lh ⟨HX3.out, by rw [HSN.out, List.map_take]; exact HA3.out⟩⟩
   case measure => simp [intOf]; omega
  ·obtain rfl : k = ds.length := by omega
   have hml : (ds.map (fun h : Hd.Hdr => h.1)).length = ds.length := List.length_map _
   go_wp2_with fail
   go_ret
   have h := HZ.out.2
   rw [List.take_length] at h
   have hcap := own_cap h
   unfold StsP
   rw [hml]
   refine ⟨_, _, rfl, HZ.out.1, ⟨?_, by rw [hml]; unfold maxLen; omega⟩, hcap⟩
   rw [hml]
   exact own_src h (strs_one _)
theorem fieldName_any (s : ByteArray) (v1 : Value) (W : World) : Calls Tryz.prog 42 #[.agg #[.string s, v1]] W (Rets W (.string s)) := by
 have bx := aH W (.cells #[.string s, v1] 79)
 have k0 := alw (cQ 0 bx)
 have k1 := alw (cQ 1 bx)
 clear bx
 go_enter Tryz.func42, Tryz.ntmps42
 go_wp2_with fail
 go_ret
 exact ⟨rfl, grows⟩
theorem namesField_any {W : World} {v : Value} {ds : List Hd.Fld} (h : Rows W 2 Hd.FieldR v ds) (hd : ds.length ≤ 1000) : Calls Tryz.prog 41 #[v, .func (.func 42) #[] #[]] W (StsP W (ds.map (fun h : Hd.Fld => h.1))) := by
 obtain ⟨oa, c, rfl, hlc, hcm⟩ := h.slice
 unfold maxLen at hcm
 have H := Lh h
 clear h
 go_enter Tryz.func41, Tryz.ntmps41
 go_wp2_with fail
 go_loopw [5, 10] (fun o q wr => ∃ k : Nat, k ≤ ds.length ∧ q = .int .i64 k ∧ ∃ oo co, o = .slice oo k co ∧ Hid (Ext W wr ∧ wr.ownsRow W.heap.size 9 1 o k (strs ((ds.take k).map (fun h : Hd.Fld => h.1))))) (fun _ q _ => ds.length - (intOf q).toNat)
 case atStart => exact ⟨0, Nat.zero_le _, rfl, _, _, rfl, Lh ⟨eR _, World.ownsRow_nil _ _ _ _⟩⟩
 case round =>
  obtain ⟨k, hk, rfl, oo, co, rfl, HZ⟩ := hrel
  have sx : Step W wr := ⟨HZ.out.1⟩
  by_cases hlt : k < ds.length
  ·obtain ⟨⟨hn, fw⟩, hx⟩ : ∃ x, ds[k]? = some x := ⟨_, gE hlt⟩
   obtain ⟨b, o, rfl, _, _⟩ := Rows.at H.out (by omega)
   obtain ⟨u0, u1, _⟩ := flds_at H.out k hn fw hx rfl
   have hsn : strs ((ds.take (k + 1)).map (fun h : Hd.Fld => h.1)) = strs ((ds.take k).map (fun h : Hd.Fld => h.1)) ++ [.string hn] := by
    rw [List.take_add_one, hx]; simp [strs]
   have HSN := Lh hsn
   have hle : W.heap.size ≤ wr.heap.size := HZ.out.1.le
   have bx := aH wr (.cells #[.string hn, .int .i64 fw] 79)
   have m0 := alw (cQ 0 bx)
   have m1 := alw (cQ 1 bx)
   clear bx
   clear hx hsn
   go_wp2_with fail
   refine via (fieldName_any _ _ _) fun w7 x7 s7 => ?_
   have hle7 := x7.le
   simp only [szA] at hle7
   have HS1 := Lh (src_one w7 (.string hn) 9 rfl)
   have HO1 := Lh (own_now HZ.out.2 (w := w7.alloc (.cells #[.string hn] 9)))
   go_wp2_with (at_builtin; refine wpList_append_fresh rfl (.tmp 14) (.tmp 18) 122 rfl W.heap.size 9 (.string ⟨#[]⟩) 1 16 Tryz.underlying122 info_str rfl (by decide) _ k (strs ((ds.take k).map (fun h : Hd.Fld => h.1))) rfl HO1.out _ 1 [.string hn] rfl HS1.out ?d1 ?d2 ?d3 ?_)
   case d1 => unfold maxLen; omega
   case d2 => omega
   case d3 => (try simp); omega
   intro v' w' hown hgr _
   have hx3 : Ext W w' := (grows (a := W) (b := w7.alloc (.cells #[.string hn] 9))).mod (grown_mod hgr) (fun q hq => (HO1.out.lt q hq.symm).1)
   have HX3 := Lh hx3
   obtain ⟨o3, c3, rfl⟩ := own_slice hown
   have HA3 := Lh hown
   clear hgr hown hx3
   go_wp2_with fail
   go_roundw
   case rel => exact ⟨k + 1, by omega, by go_num, o3, c3, rfl, Lh ⟨HX3.out, by rw [HSN.out, List.map_take]; exact HA3.out⟩⟩
   case measure => simp [intOf]; omega
  ·obtain rfl : k = ds.length := by omega
   have hml : (ds.map (fun h : Hd.Fld => h.1)).length = ds.length := List.length_map _
   go_wp2_with fail
   go_ret
   have h := HZ.out.2
   rw [List.take_length] at h
   have hcap := own_cap h
   unfold StsP
   rw [hml]
   refine ⟨_, _, rfl, HZ.out.1, ⟨?_, by rw [hml]; unfold maxLen; omega⟩, hcap⟩
   rw [hml]
   exact own_src h (strs_one _)
theorem registerName_any (s : ByteArray) (v1 v2 : Value) (W : World) : Calls Tryz.prog 45 #[.agg #[.string s, v1, v2]] W (Rets W (.string s)) := by
 have bx := aH W (.cells #[.string s, v1, v2] 83)
 have k0 := alw (cQ 0 bx)
 have k1 := alw (cQ 1 bx)
 have k2 := alw (cQ 2 bx)
 clear bx
 go_enter Tryz.func45, Tryz.ntmps45
 go_wp2_with fail
 go_ret
 exact ⟨rfl, grows⟩
theorem namesRegister_any {W : World} {v : Value} {ds : List Rg.Reg} (h : Rows W 3 Rg.RegR v ds) (hd : ds.length ≤ 1000) : Calls Tryz.prog 44 #[v, .func (.func 45) #[] #[]] W (StsP W (ds.map (fun r : Rg.Reg => r.nm))) := by
 obtain ⟨oa, c, rfl, hlc, hcm⟩ := h.slice
 unfold maxLen at hcm
 have H := Lh h
 clear h
 go_enter Tryz.func44, Tryz.ntmps44
 go_wp2_with fail
 go_loopw [5, 10] (fun o q wr => ∃ k : Nat, k ≤ ds.length ∧ q = .int .i64 k ∧ ∃ oo co, o = .slice oo k co ∧ Hid (Ext W wr ∧ wr.ownsRow W.heap.size 9 1 o k (strs ((ds.take k).map (fun r : Rg.Reg => r.nm))))) (fun _ q _ => ds.length - (intOf q).toNat)
 case atStart => exact ⟨0, Nat.zero_le _, rfl, _, _, rfl, Lh ⟨eR _, World.ownsRow_nil _ _ _ _⟩⟩
 case round =>
  obtain ⟨k, hk, rfl, oo, co, rfl, HZ⟩ := hrel
  have sx : Step W wr := ⟨HZ.out.1⟩
  by_cases hlt : k < ds.length
  ·obtain ⟨⟨hn, fw, fs⟩, hx⟩ : ∃ x, ds[k]? = some x := ⟨_, gE hlt⟩
   obtain ⟨b, o, rfl, _, _⟩ := Rows.at H.out (by omega)
   obtain ⟨u0, u1, u2, _⟩ := regs_at H.out k ⟨hn, fw, fs⟩ hx rfl
   dsimp only at u0 u1 u2
   have hsn : strs ((ds.take (k + 1)).map (fun r : Rg.Reg => r.nm)) = strs ((ds.take k).map (fun r : Rg.Reg => r.nm)) ++ [.string hn] := by
    rw [List.take_add_one, hx]; simp [strs]
   have HSN := Lh hsn
   have hle : W.heap.size ≤ wr.heap.size := HZ.out.1.le
   have bx := aH wr (.cells #[.string hn, .int .i64 fw, .int .i64 fs] 83)
   have m0 := alw (cQ 0 bx)
   have m1 := alw (cQ 1 bx)
   have m2 := alw (cQ 2 bx)
   clear bx
   clear hx hsn
   go_wp2_with fail
   refine via (registerName_any _ _ _ _) fun w7 x7 s7 => ?_
   have hle7 := x7.le
   simp only [szA] at hle7
   have HS1 := Lh (src_one w7 (.string hn) 9 rfl)
   have HO1 := Lh (own_now HZ.out.2 (w := w7.alloc (.cells #[.string hn] 9)))
   go_wp2_with (at_builtin; refine wpList_append_fresh rfl (.tmp 14) (.tmp 18) 122 rfl W.heap.size 9 (.string ⟨#[]⟩) 1 16 Tryz.underlying122 info_str rfl (by decide) _ k (strs ((ds.take k).map (fun r : Rg.Reg => r.nm))) rfl HO1.out _ 1 [.string hn] rfl HS1.out ?d1 ?d2 ?d3 ?_)
   case d1 => unfold maxLen; omega
   case d2 => omega
   case d3 => (try simp); omega
   intro v' w' hown hgr _
   have hx3 : Ext W w' := (grows (a := W) (b := w7.alloc (.cells #[.string hn] 9))).mod (grown_mod hgr) (fun q hq => (HO1.out.lt q hq.symm).1)
   have HX3 := Lh hx3
   obtain ⟨o3, c3, rfl⟩ := own_slice hown
   have HA3 := Lh hown
   clear hgr hown hx3
   go_wp2_with fail
   go_roundw
   case rel => exact ⟨k + 1, by omega, by go_num, o3, c3, rfl, Lh ⟨HX3.out, by rw [HSN.out, List.map_take]; exact HA3.out⟩⟩
   case measure => simp [intOf]; omega
  ·obtain rfl : k = ds.length := by omega
   have hml : (ds.map (fun r : Rg.Reg => r.nm)).length = ds.length := List.length_map _
   go_wp2_with fail
   go_ret
   have h := HZ.out.2
   rw [List.take_length] at h
   have hcap := own_cap h
   unfold StsP
   rw [hml]
   refine ⟨_, _, rfl, HZ.out.1, ⟨?_, by rw [hml]; unfold maxLen; omega⟩, hcap⟩
   rw [hml]
   exact own_src h (strs_one _)
theorem actionName_any (s : ByteArray) (v1 v2 : Value) (W : World) : Calls Tryz.prog 48 #[.agg #[.string s, v1, v2]] W (Rets W (.string s)) := by
 have bx := aH W (.cells #[.string s, v1, v2] 54)
 have k0 := alw (cQ 0 bx)
 have k1 := alw (cQ 1 bx)
 have k2 := alw (cQ 2 bx)
 clear bx
 go_enter Tryz.func48, Tryz.ntmps48
 go_wp2_with fail
 go_ret
 exact ⟨rfl, grows⟩
theorem namesAction_any {W : World} {v : Value} {ds : List Tj.Act} (h : Rows W 3 Tj.ActR v ds) (hd : ds.length ≤ 1000) : Calls Tryz.prog 47 #[v, .func (.func 48) #[] #[]] W (StsP W (ds.map (fun r : Tj.Act => r.nm))) := by
 obtain ⟨oa, c, rfl, hlc, hcm⟩ := h.slice
 unfold maxLen at hcm
 have H := Lh h
 clear h
 go_enter Tryz.func47, Tryz.ntmps47
 go_wp2_with fail
 go_loopw [5, 10] (fun o q wr => ∃ k : Nat, k ≤ ds.length ∧ q = .int .i64 k ∧ ∃ oo co, o = .slice oo k co ∧ Hid (Ext W wr ∧ wr.ownsRow W.heap.size 9 1 o k (strs ((ds.take k).map (fun r : Tj.Act => r.nm))))) (fun _ q _ => ds.length - (intOf q).toNat)
 case atStart => exact ⟨0, Nat.zero_le _, rfl, _, _, rfl, Lh ⟨eR _, World.ownsRow_nil _ _ _ _⟩⟩
 case round =>
  obtain ⟨k, hk, rfl, oo, co, rfl, HZ⟩ := hrel
  have sx : Step W wr := ⟨HZ.out.1⟩
  by_cases hlt : k < ds.length
  ·obtain ⟨⟨hn, ps, bd⟩, hx⟩ : ∃ x, ds[k]? = some x := ⟨_, gE hlt⟩
   obtain ⟨b, o, rfl, _, _⟩ := Rows.at H.out (by omega)
   obtain ⟨pa, pc, ba, bc, _, _, _, _, _, g0, g1, g2⟩ := acts_at H.out k ⟨hn, ps, bd⟩ hx rfl
   dsimp only at g0 g1 g2
   have u0 := alw g0
   have u1 := alw g1
   have u2 := alw g2
   clear g0 g1 g2
   have hsn : strs ((ds.take (k + 1)).map (fun r : Tj.Act => r.nm)) = strs ((ds.take k).map (fun r : Tj.Act => r.nm)) ++ [.string hn] := by
    rw [List.take_add_one, hx]; simp [strs]
   have HSN := Lh hsn
   have hle : W.heap.size ≤ wr.heap.size := HZ.out.1.le
   have bx := aH wr (.cells #[.string hn, .slice pa ps.length pc, .slice ba bd.length bc] 54)
   have m0 := alw (cQ 0 bx)
   have m1 := alw (cQ 1 bx)
   have m2 := alw (cQ 2 bx)
   clear bx
   clear hx hsn
   go_wp2_with fail
   refine via (actionName_any _ _ _ _) fun w7 x7 s7 => ?_
   have hle7 := x7.le
   simp only [szA] at hle7
   have HS1 := Lh (src_one w7 (.string hn) 9 rfl)
   have HO1 := Lh (own_now HZ.out.2 (w := w7.alloc (.cells #[.string hn] 9)))
   go_wp2_with (at_builtin; refine wpList_append_fresh rfl (.tmp 14) (.tmp 18) 122 rfl W.heap.size 9 (.string ⟨#[]⟩) 1 16 Tryz.underlying122 info_str rfl (by decide) _ k (strs ((ds.take k).map (fun r : Tj.Act => r.nm))) rfl HO1.out _ 1 [.string hn] rfl HS1.out ?d1 ?d2 ?d3 ?_)
   case d1 => unfold maxLen; omega
   case d2 => omega
   case d3 => (try simp); omega
   intro v' w' hown hgr _
   have hx3 : Ext W w' := (grows (a := W) (b := w7.alloc (.cells #[.string hn] 9))).mod (grown_mod hgr) (fun q hq => (HO1.out.lt q hq.symm).1)
   have HX3 := Lh hx3
   obtain ⟨o3, c3, rfl⟩ := own_slice hown
   have HA3 := Lh hown
   clear hgr hown hx3
   go_wp2_with fail
   go_roundw
   case rel => exact ⟨k + 1, by omega, by go_num, o3, c3, rfl, Lh ⟨HX3.out, by rw [HSN.out, List.map_take]; exact HA3.out⟩⟩
   case measure => simp [intOf]; omega
  ·obtain rfl : k = ds.length := by omega
   have hml : (ds.map (fun r : Tj.Act => r.nm)).length = ds.length := List.length_map _
   go_wp2_with fail
   go_ret
   have h := HZ.out.2
   rw [List.take_length] at h
   have hcap := own_cap h
   unfold StsP
   rw [hml]
   refine ⟨_, _, rfl, HZ.out.1, ⟨?_, by rw [hml]; unfold maxLen; omega⟩, hcap⟩
   rw [hml]
   exact own_src h (strs_one _)
theorem tableName_any (s : ByteArray) (v1 v2 v3 v4 v5 : Value) (W : World) : Calls Tryz.prog 51 #[.agg #[.string s, v1, v2, v3, v4, v5]] W (Rets W (.string s)) := by
 have bx := aH W (.cells #[.string s, v1, v2, v3, v4, v5] 96)
 have k0 := alw (cQ 0 bx)
 have k1 := alw (cQ 1 bx)
 have k2 := alw (cQ 2 bx)
 have k3 := alw (cQ 3 bx)
 have k4 := alw (cQ 4 bx)
 have k5 := alw (cQ 5 bx)
 clear bx
 go_enter Tryz.func51, Tryz.ntmps51
 go_wp2_with fail
 go_ret
 exact ⟨rfl, grows⟩
theorem namesTable_any {W : World} {v : Value} {ds : List Tj.Tab} (h : Rows W 6 Tj.TabR v ds) (hd : ds.length ≤ 1000) : Calls Tryz.prog 50 #[v, .func (.func 51) #[] #[]] W (StsP W (ds.map (fun r : Tj.Tab => r.nm))) := by
 obtain ⟨oa, c, rfl, hlc, hcm⟩ := h.slice
 unfold maxLen at hcm
 have H := Lh h
 clear h
 go_enter Tryz.func50, Tryz.ntmps50
 go_wp2_with fail
 go_loopw [5, 10] (fun o q wr => ∃ k : Nat, k ≤ ds.length ∧ q = .int .i64 k ∧ ∃ oo co, o = .slice oo k co ∧ Hid (Ext W wr ∧ wr.ownsRow W.heap.size 9 1 o k (strs ((ds.take k).map (fun r : Tj.Tab => r.nm))))) (fun _ q _ => ds.length - (intOf q).toNat)
 case atStart => exact ⟨0, Nat.zero_le _, rfl, _, _, rfl, Lh ⟨eR _, World.ownsRow_nil _ _ _ _⟩⟩
 case round =>
  obtain ⟨k, hk, rfl, oo, co, rfl, HZ⟩ := hrel
  have sx : Step W wr := ⟨HZ.out.1⟩
  by_cases hlt : k < ds.length
  ·obtain ⟨⟨hn, ks, ac, ⟨da, ar⟩, sz⟩, hx⟩ : ∃ x, ds[k]? = some x := ⟨_, gE hlt⟩
   obtain ⟨b, o, rfl, _, _⟩ := Rows.at H.out (by omega)
   obtain ⟨ka, kc, aa, cc, va, vc, _, _, _, _, _, g0, g1, g2, g3, g4, g5⟩ := tabs_at H.out k ⟨hn, ks, ac, ⟨da, ar⟩, sz⟩ hx rfl
   dsimp only at g0 g1 g2 g3 g4 g5
   have u0 := alw g0
   have u1 := alw g1
   have u2 := alw g2
   have u3 := alw g3
   have u4 := alw g4
   have u5 := alw g5
   clear g0 g1 g2 g3 g4 g5
   have hsn : strs ((ds.take (k + 1)).map (fun r : Tj.Tab => r.nm)) = strs ((ds.take k).map (fun r : Tj.Tab => r.nm)) ++ [.string hn] := by
    rw [List.take_add_one, hx]; simp [strs]
   have HSN := Lh hsn
   have hle : W.heap.size ≤ wr.heap.size := HZ.out.1.le
   have bx := aH wr (.cells #[.string hn, .slice ka ks.length kc, .slice aa ac.length cc, .int .i64 da, .slice va ar.length vc, .int .i64 sz] 96)
   have m0 := alw (cQ 0 bx)
   have m1 := alw (cQ 1 bx)
   have m2 := alw (cQ 2 bx)
   have m3 := alw (cQ 3 bx)
   have m4 := alw (cQ 4 bx)
   have m5 := alw (cQ 5 bx)
   clear bx
   clear hx hsn
   go_wp2_with fail
   refine via (tableName_any _ _ _ _ _ _ _) fun w7 x7 s7 => ?_
   have hle7 := x7.le
   simp only [szA] at hle7
   have HS1 := Lh (src_one w7 (.string hn) 9 rfl)
   have HO1 := Lh (own_now HZ.out.2 (w := w7.alloc (.cells #[.string hn] 9)))
   go_wp2_with (at_builtin; refine wpList_append_fresh rfl (.tmp 14) (.tmp 18) 122 rfl W.heap.size 9 (.string ⟨#[]⟩) 1 16 Tryz.underlying122 info_str rfl (by decide) _ k (strs ((ds.take k).map (fun r : Tj.Tab => r.nm))) rfl HO1.out _ 1 [.string hn] rfl HS1.out ?d1 ?d2 ?d3 ?_)
   case d1 => unfold maxLen; omega
   case d2 => omega
   case d3 => (try simp); omega
   intro v' w' hown hgr _
   have hx3 : Ext W w' := (grows (a := W) (b := w7.alloc (.cells #[.string hn] 9))).mod (grown_mod hgr) (fun q hq => (HO1.out.lt q hq.symm).1)
   have HX3 := Lh hx3
   obtain ⟨o3, c3, rfl⟩ := own_slice hown
   have HA3 := Lh hown
   clear hgr hown hx3
   go_wp2_with fail
   go_roundw
   case rel => exact ⟨k + 1, by omega, by go_num, o3, c3, rfl, Lh ⟨HX3.out, by rw [HSN.out, List.map_take]; exact HA3.out⟩⟩
   case measure => simp [intOf]; omega
  ·obtain rfl : k = ds.length := by omega
   have hml : (ds.map (fun r : Tj.Tab => r.nm)).length = ds.length := List.length_map _
   go_wp2_with fail
   go_ret
   have h := HZ.out.2
   rw [List.take_length] at h
   have hcap := own_cap h
   unfold StsP
   rw [hml]
   refine ⟨_, _, rfl, HZ.out.1, ⟨?_, by rw [hml]; unfold maxLen; omega⟩, hcap⟩
   rw [hml]
   exact own_src h (strs_one _)
end Go.Proofs.YtkiafiaodockbaaGreat
