/- Headers: Check of the package, walked. Headers: Check of the reference, Bits of both, walked. Headers: the example of the chapter, walked. Programs and environments: their data. Parsers: states and cases, what Check says of them, what Parse does: plain definitions and laws. The environment: Width of the package and of its reference, walked. The environment: the reference's Fits. The environment: Check of the package, walked. A region that draws its order and whose calls' results are known by a relation that outlives later steps (a new slice with such and such contents): one walk in the order of the text. No program in sight, no condition. Parsers: transitions and cases, walked, the package's and the reference's. No condition. -/
import Derived.Test.YtkiafiaodockbaaGreatKqAA
import Derived.BigCall
import Derived.BigQuiet
import Derived.Deep.Cut
import Derived.Deep.CutRange
import Derived.Deep.DeepCutAuto
import Derived.Deep.RegionHeld3
import Derived.StillTail
set_option maxRecDepth 8000
set_option maxHeartbeats 16000000
namespace Go.Proofs.YtkiafiaodockbaaGreat
open Go.RowKit
namespace Hd
theorem fE_name {fs : List Fld} {k : Nat} {f : Fld} (hk : fs[k]? = some f) (h1 : Id.ok f.1 = false) (h : fE (fs.take k) (fs.drop k) = fE [] fs) : fE [] fs = 6 := by
 rw [← h, drop_cons hk]; simp [fE, h1]
theorem fE_width {fs : List Fld} {k : Nat} {f : Fld} (hk : fs[k]? = some f) (h1 : Id.ok f.1 = true) (h2 : f.2 < 1 ∨ 32 < f.2) (h : fE (fs.take k) (fs.drop k) = fE [] fs) : fE [] fs = 10 := by
 rw [← h, drop_cons hk]; simp [fE, h1, h2]
theorem fE_dup {fs : List Fld} {k : Nat} {f : Fld} (hk : fs[k]? = some f) (h1 : Id.ok f.1 = true) (h2 : ¬ (f.2 < 1 ∨ 32 < f.2)) (h3 : (fs.take k).any (fun g => same g.1 f.1) = true) (h : fE (fs.take k) (fs.drop k) = fE [] fs) : fE [] fs = 7 := by
 rw [← h, drop_cons hk, fE, if_pos h1, if_neg h2, if_pos h3]
theorem fE_next {fs : List Fld} {k : Nat} {f : Fld} (hk : fs[k]? = some f) (h1 : Id.ok f.1 = true) (h2 : ¬ (f.2 < 1 ∨ 32 < f.2)) (h3 : (fs.take k).any (fun g => same g.1 f.1) = false) (h : fE (fs.take k) (fs.drop k) = fE [] fs) : fE (fs.take (k + 1)) (fs.drop (k + 1)) = fE [] fs := by
 rw [← h, drop_cons hk, fE, if_pos h1, if_neg h2, if_neg (by rw [h3]; decide), List.take_add_one, hk]; rfl
theorem chk_fields {nm : ByteArray} {fs : List Fld} (h1 : Id.ok nm = true) (h2 : fs.length ≠ 0) (h3 : fs.length ≤ 12) (h4 : fE [] fs ≠ 0) : chk (nm, fs) = fE [] fs := by
 unfold chk; rw [if_pos h1, if_neg h2, if_neg (by simpa using h3), if_neg h4]
theorem chk_all {nm : ByteArray} {fs : List Fld} (h1 : Id.ok nm = true) (h2 : fs.length ≠ 0) (h3 : fs.length ≤ 12) (h4 : fE [] fs = 0) : chk (nm, fs) = if tot (wds fs) % 8 = 0 then 0 else 10 := by
 unfold chk; rw [if_pos h1, if_neg h2, if_neg (by simpa using h3), if_pos h4]
end Hd
theorem hcheck_any {W : World} (h : Hd.Hdr) {v : Value} (hs : Hd.Flds W v h.2) (hn : h.1.size ≤ maxLen) :
 Calls Tryz.prog 39 #[.agg #[.string h.1, v]] W (Rets W (.int .i64 (Hd.chk h))) := by
 obtain ⟨nm, fs⟩ := h
 dsimp only at hs hn ⊢
 obtain ⟨oa, c, rfl, hlc, hcm⟩ := hs.slice
 unfold maxLen at hcm
 have HS := Lh hs
 clear hs
 have bb := aH W (.cells #[.string nm, .slice oa fs.length c] 81)
 have c0 := alw (cQ 0 bb)
 have c1 := alw (cQ 1 bb)
 clear bb
 have x1 : Ext W (W.alloc (.cells #[.string nm, .slice oa fs.length c] 81)) := (eR W).alloc _
 cases hok : Id.ok nm
 ·have e : Hd.chk (nm, fs) = 6 := by simp [Hd.chk, hok]
  rw [e]
  clear e
  go_enter Tryz.func39, Tryz.ntmps39
  go_wp2_with (go_at_call 68; refine (ident_any _ _ hn).mono ?_; rintro e w1 ⟨rfl, rfl⟩; rw [hok])
  go_ret
  exact ⟨rfl, x1⟩
 ·by_cases h0 : fs.length = 0
  ·have e : Hd.chk (nm, fs) = 8 := by simp [Hd.chk, hok, h0]
   rw [e]
   clear e
   go_enter Tryz.func39, Tryz.ntmps39
   go_wp2_with (go_at_call 68; refine (ident_any _ _ hn).mono ?_; rintro e w1 ⟨rfl, rfl⟩; rw [hok])
   go_ret
   exact ⟨rfl, (eR W).alloc _⟩
  ·have h0b : ((fs.length : Int) == 0) = false := by rw [beq_eq_false_iff_ne]; omega
   have hpos : 0 < fs.length := by omega
   have H0 := Lh h0
   clear h0
   by_cases h12 : fs.length ≤ 12
   ·go_enter Tryz.func39, Tryz.ntmps39
    go_wp2_with (go_at_call 68; refine (ident_any _ _ hn).mono ?_; rintro e w1 ⟨rfl, rfl⟩; rw [hok])
    go_loopw [25] (fun i wr => ∃ k : Nat, k ≤ fs.length ∧ i = .int .i64 k ∧ Ext (W.alloc (.cells #[.string nm, .slice oa fs.length c] 81)) wr ∧ Hid (Hd.fE (fs.take k) (fs.drop k) = Hd.fE [] fs)) (fun i _ => fs.length - (intOf i).toNat)
    case atStart => exact ⟨0, Nat.zero_le _, rfl, eR _, Lh rfl⟩
    case round =>
     obtain ⟨k, hk, rfl, hx, HI⟩ := hrel
     obtain ⟨wo, rfl⟩ : ∃ wo : World, wo = wr := ⟨_, rfl⟩
     have sx : Step (W.alloc (.cells #[.string nm, .slice oa fs.length c] 81)) wo := ⟨hx⟩
     by_cases hlt : k < fs.length
     ·obtain ⟨⟨nk, x⟩, hxk⟩ : ∃ x, fs[k]? = some x := ⟨_, gE hlt⟩
      obtain ⟨b, o, hoa, _, _⟩ := Rows.at HS.out hpos
      subst hoa
      obtain ⟨f0, f1, hns, hx1, hx2⟩ := flds_at (Hd.Flds.ext HS.out x1) k nk x hxk rfl
      have HK := Lh hxk
      have bf := aH wo (.cells #[.string nk, .int .i64 x] 79)
      have g0 := alw (cQ 0 bf)
      have g1 := alw (cQ 1 bf)
      clear hxk bf
      cases hik : Id.ok nk
      ·go_wp2_with (go_at_call 68; refine (ident_any _ _ hns).mono ?_; rintro e w1 ⟨rfl, rfl⟩; rw [hik])
       go_ret
       exact ⟨ret_int (by rw [Hd.chk_fields hok H0.out h12 (by rw [Hd.fE_name HK.out hik HI.out]; decide), Hd.fE_name HK.out hik HI.out]), x1.trans (hx.alloc _)⟩
      ·by_cases hw : x < 1 ∨ 32 < x
       ·have HWD := Lh hw
        have hw2 : x < 1 ∨ (1 ≤ x ∧ 32 < x) := by omega
        clear hw
        rcases hw2 with hw2 | ⟨hw3, hw2⟩
        all_goals
         go_wp2_with (go_at_call 68; refine (ident_any _ _ hns).mono ?_; rintro e w1 ⟨rfl, rfl⟩; rw [hik])
         go_ret
         exact ⟨ret_int (by rw [Hd.chk_fields hok H0.out h12 (by rw [Hd.fE_width HK.out hik HWD.out HI.out]; decide), Hd.fE_width HK.out hik HWD.out HI.out]), x1.trans (hx.alloc _)⟩
       ·have HWD := Lh hw
        have hw1 : 1 ≤ x := by omega
        have hw2 : x ≤ 32 := by omega
        clear hw
        go_upto_region 14 with (go_at_call 68; refine (ident_any _ _ hns).mono ?_; rintro e w1 ⟨rfl, rfl⟩; rw [hik])
        have WF : Hid (Hd.Flds (wo.alloc (.cells #[.string nk, .int .i64 x] 79)) (.slice (some ⟨b, o, none⟩) fs.length c) fs) := Lh (Hd.Flds.ext HS.out (x1.trans (hx.alloc _)))
        have hkc : (k : Int) ≤ c := by omega
        clear f0 f1
        go_wp2_with fail
        go_loopw [47] (fun i wr => ∃ j : Nat, j ≤ k ∧ i = .int .i64 j ∧ Ext (wo.alloc (.cells #[.string nk, .int .i64 x] 79)) wr ∧ Hid ((fs.take j).any (fun g => Hd.same g.1 nk) = false)) (fun i _ => k - (intOf i).toNat)
        case atStart => exact ⟨0, Nat.zero_le _, rfl, eR _, Lh rfl⟩
        case round =>
         obtain ⟨j, hj, rfl, hq, HJ⟩ := hrel
         have sq : Step (wo.alloc (.cells #[.string nk, .int .i64 x] 79)) wr := ⟨hq⟩
         by_cases hjk : j < k
         ·obtain ⟨⟨nj, y⟩, hxj⟩ : ∃ x, fs[j]? = some x := ⟨_, gE (by omega)⟩
          obtain ⟨p0, p1, hnj, _, _⟩ := flds_at WF.out j nj y hxj rfl
          have HXJ := Lh hxj
          clear hxj
          cases hsm : Hd.same nj nk
          ·have hne : (nj.toList == nk.toList) = false := hsm
           have HN := Lh hsm
           clear hsm
           go_wp2_with fail
           go_roundw
           case rel => exact ⟨j + 1, by omega, by go_num, by exact hq.alloc _, Lh (by rw [List.take_add_one, HXJ.out, List.any_append, HJ.out]; simp [HN.out])⟩
           case measure => simp [intOf]; omega
          ·have hne : (nj.toList == nk.toList) = true := hsm
           have HN := Lh hsm
           clear hsm
           go_wp2_with fail
           go_ret
           have hany : (fs.take k).any (fun g => Hd.same g.1 nk) = true := by
            rw [List.any_eq_true]
            exact ⟨(nj, y), List.mem_of_getElem? (by rw [List.getElem?_take, if_pos hjk]; exact HXJ.out), HN.out⟩
           exact ⟨ret_int (by rw [Hd.chk_fields hok H0.out h12 (by rw [Hd.fE_dup HK.out hik HWD.out hany HI.out]; decide), Hd.fE_dup HK.out hik HWD.out hany HI.out]), x1.trans ((hx.alloc _).trans (hq.alloc _))⟩
         ·obtain rfl : j = k := by omega
          have HNX := Lh (Hd.fE_next HK.out hik HWD.out HJ.out HI.out)
          go_wp2_with fail
          go_roundw
          case rel => exact ⟨j + 1, by omega, by go_num, by exact (hx.alloc _).trans hq, HNX⟩
          case measure => simp [intOf]; omega
     ·obtain rfl : k = fs.length := by omega
      have hz : Hd.fE [] fs = 0 := by have := HI.out; rw [List.drop_length] at this; rw [← this]; simp [Hd.fE]
      have hwd := Hd.fE_ok _ _ hz
      have htb := Hd.tot_bd hwd
      rw [Hd.wds_len] at htb
      have HC := Lh (Hd.chk_all hok H0.out h12 hz)
      have HWD := Lh hwd
      have hfl : Hd.Flds wo _ fs := Hd.Flds.ext HS.out (x1.trans hx)
      have HFL := Lh hfl
      clear hz hwd hfl
      go_wp2_with fail
      refine (widths_any nm fs HFL.out (by omega)).mono ?_
      rintro e w2 ⟨u, rfl, x2, o2⟩
      have S2 := Lh (own_src o2 (i64s_one _))
      have hl2 : (Hd.wds fs).length ≤ 1000 := by rw [Hd.wds_len]; omega
      obtain ⟨oa2, c2, rfl⟩ := own_slice o2
      clear o2
      go_wp2_with fail
      refine (sum_any _ S2.out HWD.out hl2).mono ?_
      rintro e w3 ⟨rfl, rfl⟩
      by_cases h8 : Hd.tot (Hd.wds fs) % 8 = 0
      ·have h9 : (Hd.tot (Hd.wds fs) % 8 != 0) = false := by simp [h8]
       have H8 := Lh h8
       clear h8
       go_wp2_with fail
       go_ret
       exact ⟨ret_int (by rw [HC.out, if_pos H8.out]), (x1.trans hx).trans x2⟩
      ·have h9 : (Hd.tot (Hd.wds fs) % 8 != 0) = true := by simp [h8]
       have H8 := Lh h8
       clear h8
       go_wp2_with fail
       go_ret
       exact ⟨ret_int (by rw [HC.out, if_neg H8.out]), (x1.trans hx).trans x2⟩
   ·have e : Hd.chk (nm, fs) = 12 := by unfold Hd.chk; rw [if_pos hok, if_neg H0.out, if_pos (by simp; omega)]
    rw [e]
    have h13 : 12 < fs.length := by omega
    clear e
    go_enter Tryz.func39, Tryz.ntmps39
    go_wp2_with (go_at_call 68; refine (ident_any _ _ hn).mono ?_; rintro e w1 ⟨rfl, rfl⟩; rw [hok])
    go_ret
    exact ⟨rfl, x1⟩
namespace Hd
theorem same_self (a : ByteArray) : same a a = true := by unfold same; simp
end Hd
theorem flat_get {α β : Type} (g : α → List β) (sz : Nat) (hg : ∀ d, (g d).length = sz) : ∀ (ds : List α) (i : Nat) (d : α), ds[i]? = some d → ∀ j, j < sz → (ds.flatMap g)[i * sz + j]? = (g d)[j]?
 | [], i, d, h, _, _ => by simp at h
 | x :: ds, 0, d, h, j, hj => by
  simp only [List.getElem?_cons_zero, Option.some.injEq] at h
  subst h
  rw [List.flatMap_cons, Nat.zero_mul, Nat.zero_add, List.getElem?_append_left (by rw [hg]; exact hj)]
 | x :: ds, i + 1, d, h, j, hj => by
  simp only [List.getElem?_cons_succ] at h
  rw [List.flatMap_cons, List.getElem?_append_right (by rw [hg, Nat.succ_mul]; omega), hg, ← flat_get g sz hg ds i d h j hj]
  congr 1; rw [Nat.succ_mul]; omega
/-- a block that has just been made holds rows -/
theorem rows_new {α : Type} {w : World} {B c sz : Nat} {t : TypeId} {f : Nat × Nat} {R : World → List Value → α → Prop} (g : α → List Value) (ds : List α) (hg : ∀ d, (g d).length = sz) (hR : ∀ d ∈ ds, R w (g d) d) (hb : w.heap[B]? = some (.cells (ds.flatMap g).toArray t f)) (h1 : ds.length ≤ c) (h2 : c ≤ maxLen) :
 Rows w sz R (.slice (some ⟨B, 0, none⟩) ds.length c) ds :=
 .inr ⟨⟨B, 0, none⟩, c, rfl, h1, h2, fun _ => rfl, fun i d hi => ⟨g d, hg d, hR d (List.mem_of_getElem? hi), fun j u hj => by
  have hjs : j < sz := by rw [← hg d]; exact (List.getElem?_eq_some_iff.1 hj).1
  rw [cell_of hb, Nat.zero_add]
  have := flat_get g sz hg ds i d hi j hjs
  rw [List.getElem?_toArray, this, hj]⟩⟩
namespace Hd
def cellsF (d : Fld) : List Value := [.string d.1, .int .i64 d.2]
theorem flds_new {w : World} {B : Nat} {t : TypeId} {f : Nat × Nat} (fs : List Fld) (hR : ∀ d ∈ fs, d.1.size ≤ maxLen ∧ -9223372036854775808 ≤ d.2 ∧ d.2 ≤ 9223372036854775807) (hb : w.heap[B]? = some (.cells (fs.flatMap cellsF).toArray t f)) (h2 : fs.length ≤ maxLen) : Flds w (.slice (some ⟨B, 0, none⟩) fs.length fs.length) fs :=
 rows_new cellsF fs (fun _ => rfl) (fun d hd => ⟨rfl, hR d hd⟩) hb (Nat.le_refl _) h2
theorem flds_nil (w : World) : Flds w (.slice none 0 0) [] := .inl ⟨rfl, rfl⟩
end Hd
/-- a slice of integers of kind k, and how long it may be -/
def Ns (k : IntKind) (w : World) (v : Value) (l : List Int) : Prop := Src w v 1 l.length (l.map (.int k)) ∧ l.length ≤ maxLen
theorem Ns.ext {k : IntKind} {w w' : World} {v : Value} {l : List Int} (h : Ns k w v l) (hx : Ext w w') : Ns k w' v l := ⟨h.1.ext hx, h.2⟩
def U32 (x : Int) : Prop := 0 ≤ x ∧ x < 4294967296
namespace Pg
structure Prog where
 hs : List Hd.Hdr
 md : List Hd.Fld
 dp : List Int
structure PV where
 c0 : Value
 c1 : Value
 c2 : Value
 c3 : Value
 c4 : Value
 c5 : Value
 c6 : Value
 c7 : Value
 c8 : Value
abbrev PV.val (p : PV) : Value := .agg #[p.c0, p.c1, p.c2, p.c3, p.c4, p.c5, p.c6, p.c7, p.c8]
def Sl (v : Value) : Prop := ∃ a n c, v = .slice a n c
def IsP (w : World) (p : PV) (P : Prog) : Prop := (∃ s, p.c0 = .string s) ∧ Rows w 2 Hd.HdrR p.c1 P.hs ∧ Hd.Flds w p.c2 P.md ∧ Sl p.c3 ∧ Sl p.c4 ∧ Sl p.c5 ∧ Sl p.c6 ∧ Sl p.c7 ∧ Ns .i64 w p.c8 P.dp
theorem IsP.ext {w w' : World} {p : PV} {P : Prog} (h : IsP w p P) (hx : Ext w w') : IsP w' p P := by
 obtain ⟨h0, h1, h2, h3, h4, h5, h6, h7, h8⟩ := h
 exact ⟨h0, h1.ext (fun _ _ h => h.ext hx) hx, h2.ext hx, h3, h4, h5, h6, h7, h8.ext hx⟩
/-- the fields of a header, or the metadata -/
def hdrAt (hs : List Hd.Hdr) (h : Int) : Hd.Hdr := if 0 ≤ h then hs.getD h.toNat (⟨#[]⟩, []) else (⟨#[]⟩, [])
def fldAt (fs : List Hd.Fld) (f : Int) : Hd.Fld := if 0 ≤ f then fs.getD f.toNat (⟨#[]⟩, 0) else (⟨#[]⟩, 0)
def flds (P : Prog) (h : Int) : List Hd.Fld := if h = -1 then P.md else (hdrAt P.hs h).2
def wid (P : Prog) (h f : Int) : Int := if Bv.ok (fldAt (flds P h) f).2 then (fldAt (flds P h) f).2 else 0
theorem all_no {p : Nat → Bool} {n k : Nat} (hk : k < n) (h : p k = false) : (List.range n).all p = false := by
 rw [← Bool.not_eq_true, List.all_eq_true]
 intro ha
 have := ha k (List.mem_range.2 hk)
 rw [h] at this; cases this
theorem all_yes {p : Nat → Bool} {n : Nat} (h : ∀ j, j < n → p j = true) : (List.range n).all p = true :=
 List.all_eq_true.2 fun j hj => h j (List.mem_range.1 hj)
end Pg
namespace Ps
structure Case where
 v : Int
 m : Int
 nx : Int
structure St where
 nm : ByteArray
 ex : List Int
 sel : Bool
 h : Int
 f : Int
 cs : List Case
 df : Int
def CaseR (_w : World) (cs : List Value) (d : Case) : Prop := cs = [.int .u32 d.v, .int .u32 d.m, .int .i64 d.nx] ∧ U32 d.v ∧ U32 d.m
abbrev Cases (w : World) (v : Value) (l : List Case) : Prop := Rows w 3 CaseR v l
def StR (w : World) (cs : List Value) (d : St) : Prop := ∃ ev cv, cs = [.string d.nm, ev, .bool d.sel, .int .i64 d.h, .int .i64 d.f, cv, .int .i64 d.df] ∧ d.nm.size ≤ maxLen ∧ Ns .i64 w ev d.ex ∧ Cases w cv d.cs
theorem StR.ext {w w' : World} {cs : List Value} {d : St} (h : StR w cs d) (hx : Ext w w') : StR w' cs d := by
 obtain ⟨ev, cv, h1, h2, h3, h4⟩ := h
 exact ⟨ev, cv, h1, h2, h3.ext hx, h4.ext (fun _ _ h => h) hx⟩
/-- a program with its states -/
def IsQ (w : World) (p : Pg.PV) (P : Pg.Prog) (ss : List St) : Prop := Pg.IsP w p P ∧ Rows w 7 StR p.c6 ss
theorem IsQ.ext {w w' : World} {p : Pg.PV} {P : Pg.Prog} {ss : List St} (h : IsQ w p P ss) (hx : Ext w w') : IsQ w' p P ss := ⟨h.1.ext hx, h.2.ext (fun _ _ h => h.ext hx) hx⟩
/-- the first of n that is not 0 -/
def fb (p : Nat → Int) (n : Nat) : Option Nat := (List.range n).find? fun i => p i != 0
theorem fb_none {p : Nat → Int} {n : Nat} (h : ∀ j, j < n → p j = 0) : fb p n = none := by
 unfold fb; rw [List.find?_eq_none]; intro x hx
 rw [h x (List.mem_range.1 hx)]; decide
theorem fb_some {p : Nat → Int} {n k : Nat} (hk : k < n) (h : ∀ j, j < k → p j = 0) (hp : p k ≠ 0) : fb p n = some k := by
 unfold fb
 have e : List.range n = List.range k ++ (k :: (List.range (n - k - 1)).map (· + (k + 1))) := by
  rw [show n = k + (1 + (n - k - 1)) by omega, List.range_add, List.range_add]
  simp [Nat.add_comm, Nat.add_left_comm]
 rw [e, List.find?_append]
 have e1 : (List.range k).find? (fun i => p i != 0) = none := fb_none h
 rw [e1, Option.none_or, List.find?_cons_of_pos (by simpa using hp)]
def st0 : St := ⟨⟨#[]⟩, [], false, 0, 0, [], 0⟩
def c0 : Case := ⟨0, 0, 0⟩
def leads (n : Nat) (s x : Int) : Bool := (x == -1) || (x == -2) || (decide (s < x) && decide (x < n))
/-- what is wrong with a case: w the width, s the state, n the number of states -/
def caseE (w : Int) (n : Nat) (s : Int) (c : Case) : Int :=
 if Bv.fits c.v w && Bv.fits c.m w then (if bits BinOp.and IntKind.u32 c.v c.m = c.v then (if leads n s c.nx then 0 else 14) else 5) else 9
def exB (n : Nat) (ex : List Int) : Bool := (List.range ex.length).all fun i => decide (0 ≤ ex.getD i 0) && decide (ex.getD i 0 < n)
/-- the first case that is wrong, and what is wrong with it -/
def csE (w : Int) (n s : Nat) (cs : List Case) : Int × Int :=
 match fb (fun i => caseE w n s (cs.getD i c0)) cs.length with
 | some i => (i, caseE w n s (cs.getD i c0))
 | none => (-1, 0)
theorem csE_none {w : Int} {n s : Nat} {cs : List Case} (h : ∀ j, j < cs.length → caseE w n s (cs.getD j c0) = 0) : csE w n s cs = (-1, 0) := by
 unfold csE; rw [fb_none h]
theorem csE_some {w : Int} {n s k : Nat} {cs : List Case} (hk : k < cs.length) (h : ∀ j, j < k → caseE w n s (cs.getD j c0) = 0) (hp : caseE w n s (cs.getD k c0) ≠ 0) : csE w n s cs = ((k : Int), caseE w n s (cs.getD k c0)) := by
 unfold csE; rw [fb_some hk h hp]
/-- what is wrong inside a state: where, and what -/
def stE (P : Pg.Prog) (n : Nat) (s : Nat) (x : St) : Int × Int :=
 if decide (4 < x.ex.length) || decide (8 < x.cs.length) then (-1, 12) else
 if !(exB P.hs.length x.ex) then (-1, 8) else
 if x.sel && (Pg.wid P x.h x.f == 0) then (-1, 8) else
 if !x.sel && decide (0 < x.cs.length) then (-1, 11) else
 if (csE (Pg.wid P x.h x.f) n s x.cs).2 = 0 then (if leads n s x.df then (0, 0) else (-1, 14)) else csE (Pg.wid P x.h x.f) n s x.cs
def dup (ss : List St) (s : Nat) : Bool := (ss.take s).any fun y => Hd.same y.nm (ss.getD s st0).nm
/-- what is wrong with state s -/
def allE (P : Pg.Prog) (ss : List St) (s : Nat) : Int × Int :=
 if !(Id.ok (ss.getD s st0).nm) then (-1, 6) else if dup ss s then (-1, 7) else stE P ss.length s (ss.getD s st0)
def chk (P : Pg.Prog) (ss : List St) : Int × Int × Int :=
 if ss.length = 0 then (-1, -1, 8) else if 12 < ss.length then (-1, -1, 12) else
 match fb (fun s => (allE P ss s).2) ss.length with
 | some s => (s, allE P ss s)
 | none => (0, 0, 0)
theorem bit32 {a : Nat} (h : a < 4294967296) {i : Nat} (hi : 32 ≤ i) : a.testBit i = false :=
 Nat.testBit_lt_two_pow (Nat.lt_of_lt_of_le h (by have := Nat.pow_le_pow_right (n := 2) (by decide) hi; omega))
theorem compl_bit {b i : Nat} (hb : b < 4294967296) : (4294967295 - b).testBit i = (decide (i < 32) && !b.testBit i) := by
 rw [show 4294967295 - b = 2 ^ 32 - (b + 1) by omega, Nat.testBit_two_pow_sub_succ (by omega)]
theorem andNot_zero {v m : Int} (hv : U32 v) (hm : U32 m) : bits BinOp.andNot IntKind.u32 v m = 0 ↔ bits BinOp.and IntKind.u32 v m = v := by
 rw [u32_andNot _ _ hv.1 hv.2 hm.1 hm.2, u32_and _ _ hv.1 hv.2 hm.1 hm.2]
 obtain ⟨a, rfl⟩ := Int.eq_ofNat_of_zero_le hv.1
 obtain ⟨b, rfl⟩ := Int.eq_ofNat_of_zero_le hm.1
 have ha : a < 4294967296 := by have := hv.2; omega
 have hb : b < 4294967296 := by have := hm.2; omega
 rw [Int.toNat_natCast, Int.toNat_natCast]
 constructor
 ·intro h
  have h' : a &&& (4294967295 - b) = 0 := by exact_mod_cast h
  have : a &&& b = a := by
   apply Nat.eq_of_testBit_eq
   intro i
   have h1 : (a &&& (4294967295 - b)).testBit i = false := by rw [h']; exact Nat.zero_testBit i
   rw [Nat.testBit_and, compl_bit hb] at h1
   rw [Nat.testBit_and]
   by_cases hi : i < 32
   ·rw [dTt hi, Bool.true_and] at h1
    cases x : a.testBit i <;> cases y : b.testBit i <;> simp_all
   ·rw [bit32 ha (by omega)]; rfl
  exact_mod_cast this
 ·intro h
  have h' : a &&& b = a := by exact_mod_cast h
  have : a &&& (4294967295 - b) = 0 := by
   apply Nat.eq_of_testBit_eq
   intro i
   have h1 : (a &&& b).testBit i = a.testBit i := by rw [h']
   rw [Nat.testBit_and] at h1
   rw [Nat.testBit_and, compl_bit hb, Nat.zero_testBit]
   cases x : a.testBit i <;> cases y : b.testBit i <;> simp_all
  exact_mod_cast this
end Ps
namespace Pg
theorem fldAt_in {fs : List Hd.Fld} {k : Nat} {nm : ByteArray} {x : Int} (h : fs[k]? = some (nm, x)) : fldAt fs k = (nm, x) := by
 unfold fldAt; rw [if_pos (by omega), Int.toNat_natCast, List.getD_eq_getElem?_getD, h]; rfl
theorem fldAt_out {fs : List Hd.Fld} {i : Int} (h : i < 0 ∨ (fs.length : Int) ≤ i) : fldAt fs i = (⟨#[]⟩, 0) := by
 unfold fldAt
 by_cases h0 : 0 ≤ i
 ·rw [if_pos h0, List.getD_eq_getElem?_getD, List.getElem?_eq_none (by omega)]; rfl
 ·rw [if_neg h0]
theorem hdrAt_in {hs : List Hd.Hdr} {k : Nat} {h : Hd.Hdr} (e : hs[k]? = some h) : hdrAt hs k = h := by
 unfold hdrAt; rw [if_pos (by omega), Int.toNat_natCast, List.getD_eq_getElem?_getD, e]; rfl
theorem hdrAt_out {hs : List Hd.Hdr} {i : Int} (h : i < 0 ∨ (hs.length : Int) ≤ i) : hdrAt hs i = (⟨#[]⟩, []) := by
 unfold hdrAt
 by_cases h0 : 0 ≤ i
 ·rw [if_pos h0, List.getD_eq_getElem?_getD, List.getElem?_eq_none (by omega)]; rfl
 ·rw [if_neg h0]
end Pg
theorem atField_any {W : World} {v : Value} {fs : List Hd.Fld} (hs : Hd.Flds W v fs) (i : Int) :
 Calls Tryz.prog 138 #[v, .int .i64 i] W (Rets W (.agg #[.string (Pg.fldAt fs i).1, .int .i64 (Pg.fldAt fs i).2])) := by
 obtain ⟨oa, c, rfl, hlc, hcm⟩ := hs.slice
 unfold maxLen at hcm
 by_cases hin : 0 ≤ i ∧ i < fs.length
 ·obtain ⟨h0, h1⟩ := hin
  obtain ⟨k, rfl⟩ := Int.eq_ofNat_of_zero_le h0
  have hlt : k < fs.length := by omega
  obtain ⟨⟨nk, x⟩, hxk⟩ : ∃ x, fs[k]? = some x := ⟨_, gE hlt⟩
  obtain ⟨b, o, hoa, _, _⟩ := Rows.at hs (by omega)
  subst hoa
  obtain ⟨f0, f1, hns, hx1, hx2⟩ := flds_at hs k nk x hxk rfl
  rw [Pg.fldAt_in hxk]
  clear hxk hs
  go_enter Tryz.func138, Tryz.ntmps138
  go_wp2_with fail
  exact bodyPost_ret (v := .agg #[.string nk, .int .i64 x]) (by simp [results, Tryz.results138, go_sem]) rfl ⟨rfl, ((eR W).alloc _).alloc _⟩
 ·have hout : i < 0 ∨ (fs.length : Int) ≤ i := by omega
  rw [Pg.fldAt_out hout]
  clear hs hin
  rcases (show i < 0 ∨ (0 ≤ i ∧ (fs.length : Int) ≤ i) by omega) with h0 | ⟨h0, h1⟩
  all_goals
   clear hout
   go_enter Tryz.func138, Tryz.ntmps138
   go_wp2_with fail
   exact bodyPost_ret (v := .agg #[.string ⟨#[]⟩, .int .i64 0]) (by simp [results, Tryz.results138, go_sem]) rfl ⟨rfl, ((eR W).alloc _).alloc _⟩
theorem hdrs_at {w : World} {b o n c : Nat} {hs : List Hd.Hdr} {oa : Option Addr} (h : Rows w 2 Hd.HdrR (.slice oa n c) hs) (k : Nat) (nm : ByteArray) (fs : List Hd.Fld) (hk : hs[k]? = some (nm, fs)) (hoa : oa = some ⟨b, o, none⟩) :
 ∃ fa fc, (∀ w' [Grows w w'], w'.cell? ⟨b, o + k * 2, none⟩ = some (.string nm)) ∧ (∀ w' [Grows w w'], w'.cell? ⟨b, o + k * 2 + 1, none⟩ = some (.slice fa fs.length fc)) ∧ nm.size ≤ maxLen ∧ Hd.Flds w (.slice fa fs.length fc) fs ∧ fs.length ≤ fc ∧ fc ≤ maxLen := by
 have hlt := (List.getElem?_eq_some_iff.1 hk).1
 obtain ⟨b', o', hb, hn, hc⟩ := Rows.at h (by omega)
 rw [hb] at hoa
 simp only [Option.some.injEq, Addr.mk.injEq, and_true] at hoa
 obtain ⟨rfl, rfl⟩ := hoa
 obtain ⟨cs, _, ⟨fv, rfl, h1, h2⟩, hcs⟩ := hc k _ hk
 obtain ⟨fa, fc, rfl, h3, h4⟩ := h2.slice
 exact ⟨fa, fc, alw (hcs 0 _ rfl), alw (hcs 1 _ rfl), h1, h2, h3, h4⟩
theorem atHeader_any {W : World} {v : Value} {hs : List Hd.Hdr} (hr : Rows W 2 Hd.HdrR v hs) (i : Int) :
 ∃ u, Hd.Flds W u (Pg.hdrAt hs i).2 ∧ ∀ w, Ext W w → Calls Tryz.prog 150 #[v, .int .i64 i] w (Rets w (.agg #[.string (Pg.hdrAt hs i).1, u])) := by
 obtain ⟨oa, c, rfl, hlc, hcm⟩ := hr.slice
 unfold maxLen at hcm
 by_cases hin : 0 ≤ i ∧ i < hs.length
 ·obtain ⟨h0, h1⟩ := hin
  obtain ⟨k, rfl⟩ := Int.eq_ofNat_of_zero_le h0
  have hlt : k < hs.length := by omega
  obtain ⟨⟨nk, fs⟩, hxk⟩ : ∃ x, hs[k]? = some x := ⟨_, gE hlt⟩
  obtain ⟨b, o, hoa, _, _⟩ := Rows.at hr (by omega)
  subst hoa
  obtain ⟨fa, fc, f0, f1, hns, hf, _, _⟩ := hdrs_at hr k nk fs hxk rfl
  rw [Pg.hdrAt_in hxk]
  refine ⟨_, hf, fun w hx => ?_⟩
  have sx : Step W w := ⟨hx⟩
  clear hxk hr hf
  go_enter Tryz.func150, Tryz.ntmps150
  go_wp2_with fail
  exact bodyPost_ret (v := .agg #[.string nk, .slice fa fs.length fc]) (by simp [results, Tryz.results150, go_sem]) rfl ⟨rfl, ((eR w).alloc _).alloc _⟩
 ·have hout : i < 0 ∨ (hs.length : Int) ≤ i := by omega
  rw [Pg.hdrAt_out hout]
  refine ⟨_, Hd.flds_nil W, fun w hx => ?_⟩
  clear hr hin hx
  rcases (show i < 0 ∨ (0 ≤ i ∧ (hs.length : Int) ≤ i) by omega) with h0 | ⟨h0, h1⟩
  all_goals
   clear hout
   go_enter Tryz.func150, Tryz.ntmps150
   go_wp2_with fail
   exact bodyPost_ret (v := .agg #[.string ⟨#[]⟩, .slice none 0 0]) (by simp [results, Tryz.results150, go_sem]) rfl ⟨rfl, ((eR w).alloc _).alloc _⟩
namespace Pg
/-- the nine values of a program -/
structure Form (w : World) (p : PV) (P : Prog) (s : ByteArray) (a1 a2 a3 a4 a5 a6 a7 a8 : Option Addr) (m1 m2 n3 m3 n4 m4 n5 m5 n6 m6 n7 m7 m8 : Nat) : Prop where
 e : p = ⟨.string s, .slice a1 P.hs.length m1, .slice a2 P.md.length m2, .slice a3 n3 m3, .slice a4 n4 m4, .slice a5 n5 m5, .slice a6 n6 m6, .slice a7 n7 m7, .slice a8 P.dp.length m8⟩
 hs : Rows w 2 Hd.HdrR (.slice a1 P.hs.length m1) P.hs
 md : Hd.Flds w (.slice a2 P.md.length m2) P.md
 dp : Ns .i64 w (.slice a8 P.dp.length m8) P.dp
 l1 : P.hs.length ≤ m1 ∧ m1 ≤ 9223372036854775807
 l2 : P.md.length ≤ m2 ∧ m2 ≤ 9223372036854775807
 l8 : P.dp.length ≤ 9223372036854775807
theorem IsP.form {w : World} {p : PV} {P : Prog} (h : IsP w p P) : ∃ s a1 a2 a3 a4 a5 a6 a7 a8 m1 m2 n3 m3 n4 m4 n5 m5 n6 m6 n7 m7 m8, Form w p P s a1 a2 a3 a4 a5 a6 a7 a8 m1 m2 n3 m3 n4 m4 n5 m5 n6 m6 n7 m7 m8 := by
 obtain ⟨c0, c1, c2, c3, c4, c5, c6, c7, c8⟩ := p
 obtain ⟨⟨s, h0⟩, h1, h2, ⟨a3, n3, m3, h3⟩, ⟨a4, n4, m4, h4⟩, ⟨a5, n5, m5, h5⟩, ⟨a6, n6, m6, h6⟩, ⟨a7, n7, m7, h7⟩, h8⟩ := h
 dsimp only at h0 h1 h2 h3 h4 h5 h6 h7 h8
 subst h0 h3 h4 h5 h6 h7
 obtain ⟨a1, m1, rfl, l1, l1'⟩ := h1.slice
 obtain ⟨a2, m2, rfl, l2, l2'⟩ := h2.slice
 obtain ⟨a8, m8, rfl, _⟩ := h8.1.slice
 have := h8.2
 unfold maxLen at l1' l2' this
 exact ⟨s, a1, a2, a3, a4, a5, a6, a7, a8, m1, m2, n3, m3, n4, m4, n5, m5, n6, m6, n7, m7, m8, ⟨rfl, h1, h2, h8, ⟨l1, by omega⟩, ⟨l2, by omega⟩, by omega⟩⟩
end Pg
theorem field_hdr (s : ByteArray) (a : Option Addr) (n c : Nat) (w : World) : (Instr.field 81 (.agg #[.string s, .slice a n c]) 1).run Tryz.prog w = .ok (.slice a n c) w := by kernel_rfl
theorem field_fld (s : ByteArray) (x : Int) (w : World) : (Instr.field 79 (.agg #[.string s, .int .i64 x]) 1).run Tryz.prog w = .ok (.int .i64 x) w := by kernel_rfl
abbrev Yq15 (s : ByteArray) (a1 : Option Addr) (m1 : Nat) (P : Pg.Prog) (a2 : Option Addr) (m2 : Nat) (a3 : Option Addr) (m3 : Nat) (n3 : Nat) (a4 : Option Addr) (m4 : Nat) (n4 : Nat) (a5 : Option Addr) (m5 : Nat) (n5 : Nat) (a6 : Option Addr) (m6 : Nat) (n6 : Nat) (a7 : Option Addr) (m7 : Nat) (n7 : Nat) (a8 : Option Addr) (m8 : Nat) : Array Value := #[.string s, .slice a1 P.hs.length m1, .slice a2 P.md.length m2, .slice a3 n3 m3, .slice a4 n4 m4, .slice a5 n5 m5, .slice a6 n6 m6, .slice a7 n7 m7, .slice a8 P.dp.length m8]
theorem fields_any {W : World} {p : Pg.PV} {P : Pg.Prog} (hp : Pg.IsP W p P) (i : Int) :
 ∃ u, Hd.Flds W u (Pg.flds P i) ∧ ∀ w, Ext W w → Calls Tryz.prog 139 #[p.val, .int .i64 i] w (Rets w u) := by
 obtain ⟨s, a1, a2, a3, a4, a5, a6, a7, a8, m1, m2, n3, m3, n4, m4, n5, m5, n6, m6, n7, m7, m8, hf⟩ := hp.form
 obtain ⟨rfl, hhs, hmd, _, _, _, _⟩ := hf
 by_cases hi : i = -1
 ·refine ⟨_, by unfold Pg.flds; rw [if_pos hi]; exact hmd, fun w hx => ?_⟩
  subst hi
  dsimp only [Pg.PV.val]
  have bb := aH w (.cells (Yq15 s a1 m1 P a2 m2 a3 m3 n3 a4 m4 n4 a5 m5 n5 a6 m6 n6 a7 m7 n7 a8 m8) 31)
  have k2 := alw (cQ 2 bb)
  clear bb hp hhs hmd hx
  go_enter Tryz.func139, Tryz.ntmps139
  go_wp2_with fail
  go_ret
  exact ⟨rfl, grows⟩
 ·obtain ⟨u, hu, hc⟩ := atHeader_any hhs i
  obtain ⟨ua, uc, rfl, _, _⟩ := hu.slice
  refine ⟨_, by unfold Pg.flds; rw [if_neg hi]; exact hu, fun w hx => ?_⟩
  have hib : (i == -1) = false := by rw [beq_eq_false_iff_ne]; exact hi
  dsimp only [Pg.PV.val]
  have bb := aH w (.cells (Yq15 s a1 m1 P a2 m2 a3 m3 n3 a4 m4 n4 a5 m5 n5 a6 m6 n6 a7 m7 n7 a8 m8) 31)
  have k1 := alw (cQ 1 bb)
  have HC := Lh hc
  have HX := Lh hx
  have hfh := field_hdr
  clear bb hp hhs hmd hu hc hi hx
  go_enter Tryz.func139, Tryz.ntmps139
  go_wp2_with fail
  refine via (HC.out _ (HX.out.trans grows)) fun w1 x1 s1 => ?_
  go_wp2_with fail
  go_ret
  exact ⟨rfl, grows⟩
theorem mask_zero {w : Int} : (Bv.mask w == 0) = !(Bv.ok w) := by
 cases h : Bv.ok w
 ·simp [Bv.mask, h]
 ·have h1 := Bv.ok_iff.1 h
  have h2 : (1 : Int) < Bv.pw w := by
   have := Bv.pw_lt (a := 0) (b := w) (by decide) (by omega)
   simpa [Bv.pw] using this
  simp [Bv.mask, h]; omega
theorem width_any {W : World} {p : Pg.PV} {P : Pg.Prog} (hp : Pg.IsP W p P) (h f : Int) :
 Calls Tryz.prog 112 #[p.val, .agg #[.int .i64 h, .int .i64 f]] W (Rets W (.int .i64 (Pg.wid P h f))) := by
 obtain ⟨u, hu, hc⟩ := fields_any hp h
 obtain ⟨ua, uc, rfl, _, _⟩ := hu.slice
 have HP := Lh hp
 obtain ⟨s, a1, a2, a3, a4, a5, a6, a7, a8, m1, m2, n3, m3, n4, m4, n5, m5, n6, m6, n7, m7, m8, hf⟩ := hp.form
 obtain ⟨rfl, hhs, hmd, _, _, _, _⟩ := hf
 have HC := Lh hc
 have HU := Lh hu
 dsimp only [Pg.PV.val] at HC ⊢
 have bb := aH W (.cells (Yq15 s a1 m1 P a2 m2 a3 m3 n3 a4 m4 n4 a5 m5 n5 a6 m6 n6 a7 m7 n7 a8 m8) 31)
 have k0 := alw (cQ 0 bb)
 have k1 := alw (cQ 1 bb)
 have k2 := alw (cQ 2 bb)
 have k3 := alw (cQ 3 bb)
 have k4 := alw (cQ 4 bb)
 have k5 := alw (cQ 5 bb)
 have k6 := alw (cQ 6 bb)
 have k7 := alw (cQ 7 bb)
 have k8 := alw (cQ 8 bb)
 have b2 := aH (W.alloc (.cells (Yq15 s a1 m1 P a2 m2 a3 m3 n3 a4 m4 n4 a5 m5 n5 a6 m6 n6 a7 m7 n7 a8 m8) 31)) (.cells #[.int .i64 h, .int .i64 f] 88)
 rw [szA] at b2
 have j0 := alw (cQ 0 b2)
 have j1 := alw (cQ 1 b2)
 obtain ⟨x, hx⟩ : ∃ x, x = (Pg.fldAt (Pg.flds P h) f).2 := ⟨_, rfl⟩
 have HXE := Lh hx
 have hm := mask_zero (w := x)
 have hff := field_fld
 clear bb b2 hp hhs hmd hu hc hx
 cases hk : Bv.ok x
 all_goals
  rw [hk] at hm
  have HK := Lh hk
  clear hk
  go_enter Tryz.func112, Tryz.ntmps112
  go_wp2_with fail
  refine wp_region_later (W := (W.alloc (.cells (Yq15 s a1 m1 P a2 m2 a3 m3 n3 a4 m4 n4 a5 m5 n5 a6 m6 n6 a7 m7 n7 a8 m8) 31)).alloc (.cells #[.int .i64 h, .int .i64 f] 88)) (by kernel_rfl) (by kernel_rfl) (eR _) ?_
  repeat (go_big_quiet_step (first
   | (go_at_call 139; exact Rets.later_at (HC.out _ grows))
   | (go_at_call 138; exact Rets.later_at (atField_any (Hd.Flds.ext HU.out grows) _))))
  refine wpQuiet_nil ?_
  intro w3 hx3
  have s3 := Sm hx3
  rw [← HXE.out]
  go_wp2_with fail
  refine (mask_any x w3).mono ?_
  rintro e w4 ⟨rfl, x4⟩
  have s4 : Step w3 w4 := ⟨x4⟩
  go_wp2_with fail
  go_ret
  exact ⟨by unfold Pg.wid; rw [← HXE.out, HK.out]; rfl, grows⟩
namespace Pg
theorem wid_bd (P : Prog) (h f : Int) : 0 ≤ wid P h f ∧ wid P h f ≤ 32 := by
 unfold wid; split
 ·rename_i hk; have := Bv.ok_iff.1 hk; omega
 ·omega
end Pg
/-- an element of a slice that is not empty -/
theorem ns_at {k : IntKind} {w : World} {oa : Option Addr} {n c : Nat} {l : List Int} (h : Ns k w (.slice oa n c) l) (hl : 0 < l.length) : ∃ b o, oa = some ⟨b, o, none⟩ ∧ ∀ j x, l[j]? = some x → ∀ w' [Grows w w'], w'.cell? ⟨b, o + j, none⟩ = some (.int k x) := by
 cases oa with
 | none =>
  rcases h.1.2.2 with ⟨_, h0⟩ | ⟨_, _, h0, _⟩
  ·omega
  ·simp at h0
 | some ad =>
  obtain ⟨ea, _, ca⟩ := h.1.at hl
  obtain ⟨ab, ao, asp⟩ := ad
  simp only [Addr.mk.injEq, true_and] at ea
  subst ea
  exact ⟨ab, ao, rfl, fun j x hj => alw (ca j _ (by simp [hj]))⟩
theorem ns_slice {k : IntKind} {w : World} {v : Value} {l : List Int} (h : Ns k w v l) : ∃ oa c, v = .slice oa l.length c := by
 obtain ⟨oa, c, rfl, _⟩ := h.1.slice; exact ⟨oa, c, rfl⟩
namespace Rel
/-- what one operation leaves -/
def upon (P : Program) (r : Value → World → Prop) (w : World) : Result Next → Prop
 | .ok (.value u) w' => Ext w w' ∧ r u w'
 | .ok .skip w' => Ext w w' ∧ r undef w'
 | .ok (.enter f args) w' => w' = w ∧ Calls P f args w (fun e w'' => ∃ v, e = .returned v ∧ Ext w w'' ∧ r v w'')
 | _ => False
def leaves (P : Program) (r : Value → World → Prop) (o : Oper) (a : Act) (w : World) : Prop := upon P r w ((execOp a.eval o).run P w)
/-- an operation that enters no function -/
def pureB (o : Oper) : Bool :=
 match o.op with
 | .call c => (match c.callee with | .builtin .len => true | _ => false)
 | .go _ | .defer _ | .send _ _ | .recv _ _ _ | .select _ _ => false
 | _ => true
theorem no_enter_v {s : Sem Value} {P : Program} {w w' : World} {f : FuncId} {args : Array Value} : (do pure (Next.value (← s)) : Sem Next).run P w ≠ .ok (.enter f args) w' := by
 rw [Sem.run_bind]
 cases s.run P w <;> simp [Result.andThen, Sem.run_pure]
theorem no_enter_g {α : Type} {s : Sem α} {g : α → Value} {P : Program} {w w' : World} {f : FuncId} {args : Array Value} : (do pure (Next.value (g (← s))) : Sem Next).run P w ≠ .ok (.enter f args) w' := by
 rw [Sem.run_bind]
 cases s.run P w <;> simp [Result.andThen, Sem.run_pure]
theorem no_enter_u {s : Sem Unit} {P : Program} {w w' : World} {f : FuncId} {args : Array Value} : (do s; pure Next.skip : Sem Next).run P w ≠ .ok (.enter f args) w' := by
 rw [Sem.run_bind]
 cases s.run P w <;> simp [Result.andThen, Sem.run_pure]
theorem no_enter_p {v : Value} {P : Program} {w w' : World} {f : FuncId} {args : Array Value} : (pure (Next.value v) : Sem Next).run P w ≠ .ok (.enter f args) w' := by
 simp [Sem.run_pure]
theorem no_enter_bind {α : Type} {s : Sem α} {k : α → Sem Next} {P : Program} {w w' : World} {f : FuncId} {args : Array Value} (h : ∀ a w, (k a).run P w ≠ .ok (.enter f args) w') : (s >>= k).run P w ≠ .ok (.enter f args) w' := by
 rw [Sem.run_bind]
 cases s.run P w <;> simp [Result.andThen, h]
theorem no_enter {o : Oper} (h : pureB o = true) {ρ : Operand → Value} {P : Program} {w w' : World} {f : FuncId} {args : Array Value} : (execOp ρ o).run P w ≠ .ok (.enter f args) w' := by
 obtain ⟨dst, op, ty, pos, aft, gd⟩ := o
 cases op with
 | call c =>
  obtain ⟨ce, xs, ts⟩ := c
  cases ce with
  | builtin b => cases b <;> first | (simp [pureB] at h; done) | exact no_enter_v
  | value f => simp [pureB] at h
  | invoke r m => simp [pureB] at h
 | nilCheck x =>
  intro he
  simp only [execOp] at he
  split at he
  ·simp [runtimePanic] at he
  ·simp [runtimePanic] at he
  ·simp [runtimePanic] at he
  ·split at he
   ·simp [runtimePanic] at he
   ·refine no_enter_bind (fun p w => no_enter_bind (fun b w => ?_)) he
    split
    ·exact no_enter_bind (fun _ _ => no_enter_p)
    ·exact no_enter_p
   ·exact no_enter_p he
  ·exact no_enter_p he
 | _ => first | (simp [pureB] at h; done) | exact no_enter_p | exact no_enter_v | exact no_enter_u | exact no_enter_g
abbrev Facts := Nat → World → Prop
def add (Φ : Facts) (j : Nat) (F : World → Prop) : Facts := fun k w => Φ k w ∧ (k = j → F w)
theorem add_true (Φ : Facts) (j : Nat) : add Φ j (fun _ => True) = Φ := by
 funext k w; exact propext ⟨fun h => h.1, fun h => ⟨h, fun _ => trivial⟩⟩
theorem add_comm (Φ : Facts) (i j : Nat) (F G : World → Prop) : add (add Φ i F) j G = add (add Φ j G) i F := by
 funext k w; exact propext ⟨fun h => ⟨⟨h.1.1, h.2⟩, h.1.2⟩, fun h => ⟨⟨h.1.1, h.2⟩, h.1.2⟩⟩
section
variable {P : Program} {ops : Array Oper} {md : Region.Mode} {W0 : World} {R : Nat → Option (Value → World → Prop)}
/-- the worlds in which operation j may come up: the facts of those it waits for hold -/
def cls (md : Region.Mode) (ops : Array Oper) (W0 : World) (Φ : Facts) (j : Nat) (w : World) : Prop := Ext W0 w ∧ ∀ k, Region.waitsFor md ops j k = true → Φ k w
theorem cls_add {Φ : Facts} {i j : Nat} {F : World → Prop} {w : World} (h : Region.waitsFor md ops j i = false) : cls md ops W0 (add Φ i F) j w ↔ cls md ops W0 Φ j w :=
 ⟨fun ⟨h1, h2⟩ => ⟨h1, fun k hk => (h2 k hk).1⟩, fun ⟨h1, h2⟩ => ⟨h1, fun k hk => ⟨h2 k hk, fun e => by subst e; rw [h] at hk; cases hk⟩⟩⟩
/-- one operation: its possible values, and what comes with each -/
inductive Mode (P : Program) (md : Region.Mode) (ops : Array Oper) (W0 : World) (R : Nat → Option (Value → World → Prop)) (Φ : Facts) (j : Nat) (o : Oper) (a : Act) : (Value → Prop) → (Value → World → Prop) → Prop
 | skip (h : Region.wanted o (yielded ops a.tmps) = false) : Mode P md ops W0 R Φ j o a (fun v => v = undef) (fun _ _ => True)
 | exact (v0 : Value) (h : Region.wanted o (yielded ops a.tmps) = true) (hr : R j = none) (hp : pureB o = true) (hv : ∀ w, cls md ops W0 Φ j w → o.quietAt P a (Ext W0) w v0) : Mode P md ops W0 R Φ j o a (fun v => v = v0) (fun _ _ => True)
 | rel (r : Value → World → Prop) (h : Region.wanted o (yielded ops a.tmps) = true) (hr : R j = some r) (hv : ∀ w, cls md ops W0 Φ j w → leaves P r o a w) : Mode P md ops W0 R Φ j o a (fun v => ∃ w, Ext W0 w ∧ (∀ k, Φ k w) ∧ r v w) r
def step (P : Program) (md : Region.Mode) (ops : Array Oper) (W0 : World) (R : Nat → Option (Value → World → Prop)) (Φ : Facts) (j : Nat) (K : Facts → Act → Prop) (a : Act) : Prop :=
 ∃ o V F, ops[j]? = some o ∧ Mode P md ops W0 R Φ j o a V F ∧ ∀ v, V v → K (add Φ j (F v)) (a.put o.dst v)
/-- facts outlive later steps -/
def Lasts (Φ : Facts) : Prop := ∀ k w w', Φ k w → Ext w w' → Φ k w'
def LastsR (R : Nat → Option (Value → World → Prop)) : Prop := ∀ j r, R j = some r → ∀ v w w', r v w → Ext w w' → r v w'
/-- some world has them all -/
def Sat (W0 : World) (Φ : Facts) : Prop := ∃ w, Ext W0 w ∧ ∀ k, Φ k w
theorem Mode.lasts {Φ : Facts} {j : Nat} {o : Oper} {a : Act} {V : Value → Prop} {F : Value → World → Prop} (hR : LastsR R) (hΦ : Lasts Φ) (h : Mode P md ops W0 R Φ j o a V F) (v : Value) : Lasts (add Φ j (F v)) := by
 intro k w w' hk hx
 refine ⟨hΦ k w w' hk.1 hx, fun e => ?_⟩
 have hF := hk.2 e
 cases h with
 | skip h => trivial
 | exact v0 h hr hp hv => trivial
 | rel r h hr hv => exact hR j _ hr v w w' hF hx
theorem Mode.sat {Φ : Facts} {j : Nat} {o : Oper} {a : Act} {V : Value → Prop} {F : Value → World → Prop} (hs : Sat W0 Φ) (h : Mode P md ops W0 R Φ j o a V F) {v : Value} (hv : V v) : Sat W0 (add Φ j (F v)) := by
 cases h with
 | skip h => rw [add_true]; exact hs
 | exact v0 h hr hp hv => rw [add_true]; exact hs
 | rel r h hr hv' =>
  obtain ⟨w, h1, h2, h3⟩ := hv
  exact ⟨w, h1, fun k => ⟨h2 k, fun _ => h3⟩⟩
theorem Mode.some {Φ : Facts} {j : Nat} {o : Oper} {a : Act} {V : Value → Prop} {F : Value → World → Prop} (hΦ : Lasts Φ) (hs : Sat W0 Φ) (h : Mode P md ops W0 R Φ j o a V F) : ∃ v, V v := by
 cases h with
 | skip h => exact ⟨_, rfl⟩
 | exact v0 h hr hp hv => exact ⟨_, rfl⟩
 | rel r h hr hv =>
  obtain ⟨w, h1, h2⟩ := hs
  have h3 := hv w ⟨h1, fun k _ => h2 k⟩
  unfold leaves at h3
  generalize (execOp a.eval o).run P w = res at h3
  cases res with
  | ok n w' =>
   cases n <;> simp only [upon] at h3
   case value u => exact ⟨u, w', h1.trans h3.1, fun k => hΦ k w w' (h2 k) h3.1, h3.2⟩
   case skip => exact ⟨undef, w', h1.trans h3.1, fun k => hΦ k w w' (h2 k) h3.1, h3.2⟩
   case enter f args =>
    obtain ⟨_, hc⟩ := h3
    obtain ⟨e, w'', fr, ⟨v, _, hx, hr'⟩, _⟩ := hc []
    exact ⟨v, w'', h1.trans hx, fun k => hΦ k w w'' (h2 k) hx, hr'⟩
  | halt x w' => simp only [upon] at h3
/-- two values of one operation that enters no function are one -/
theorem quiet_one {o : Oper} {a : Act} {w : World} {u v : Value} {C : World → Prop} (hp : pureB o = true) (hu : o.quietAt P a C w u) (hv : o.quietAt P a C w v) : u = v := by
 have hn := fun w' f args => no_enter (P := P) (w := w) (w' := w') (f := f) (args := args) hp (ρ := a.eval)
 unfold Oper.quietAt at hu hv
 generalize (execOp a.eval o).run P w = res at hu hv hn
 cases res with
 | ok n w' =>
  cases n <;> simp only [Oper.quietUpon] at hu hv
  case value x => rw [← hu.2, ← hv.2]
  case skip => rw [hu.2, hv.2]
  case enter f args => exact absurd rfl (hn w' f args)
 | halt x w' => simp only [Oper.quietUpon] at hu
theorem leaves_put {o : Oper} (hs : ∀ cs b, o.op ≠ .select cs b) {a : Act} {dst : Option Tmp} {v : Value} (h : ∀ d, dst = some d → d ∉ o.looksAt ops) {r : Value → World → Prop} {w : World} : leaves P r o (a.put dst v) w ↔ leaves P r o a w := by
 unfold leaves; rw [execOp_put o hs a dst v h]
theorem quiet_put {o : Oper} (hs : ∀ cs b, o.op ≠ .select cs b) {a : Act} {dst : Option Tmp} {v : Value} (h : ∀ d, dst = some d → d ∉ o.looksAt ops) {C : World → Prop} {w : World} {u : Value} : o.quietAt P (a.put dst v) C w u ↔ o.quietAt P a C w u := by
 unfold Oper.quietAt; rw [execOp_put o hs a dst v h]
/-- what i was taken for may as well be taken behind j -/
theorem swap {Φ : Facts} {i j : Nat} {oi oj : Oper} {a : Act} {K : Facts → Act → Prop} (hΦ : Lasts Φ) (hs : Sat W0 Φ) (hi : ops[i]? = some oi) (hj : ops[j]? = some oj) (hap : oi.apart ops oj = true)
 (hsi : ∀ cs b, oi.op ≠ .select cs b) (hsj : ∀ cs b, oj.op ≠ .select cs b) (wji : Region.waitsFor md ops j i = false) (wij : Region.waitsFor md ops i j = false)
 (h : step P md ops W0 R Φ i (fun Φ1 a1 => step P md ops W0 R Φ1 j K a1) a) : step P md ops W0 R Φ j (fun Φ2 a2 => step P md ops W0 R Φ2 i K a2) a := by
 obtain ⟨h1, h2, h3⟩ := Oper.apart_spec hap
 obtain ⟨o', V, F, ho, hm, hk⟩ := h
 obtain rfl : o' = oi := Option.some.inj (ho.symm.trans hi)
 obtain ⟨v1, hv1⟩ := hm.some hΦ hs
 have hk1 := hk v1 hv1
 obtain ⟨oj', Vj, Fj, hoj, hmj, _⟩ := hk1
 obtain rfl : oj' = oj := Option.some.inj (hoj.symm.trans hj)
 have hwt : ∀ v, Region.wanted oj' (yielded ops (a.put o'.dst v).tmps) = Region.wanted oj' (yielded ops a.tmps) := fun v => wanted_put oj' a o'.dst v h1
 have hwti : ∀ v, Region.wanted o' (yielded ops (a.put oj'.dst v).tmps) = Region.wanted o' (yielded ops a.tmps) := fun v => wanted_put o' a oj'.dst v h3
 -- i behind j, when j brings no fact
 have keep : ∀ u, Mode P md ops W0 R Φ i o' (a.put oj'.dst u) V F := fun u => by
  cases hm with
  | skip h => exact .skip (by rw [hwti]; exact h)
  | exact v0 h hr hp hv => exact .exact v0 (by rw [hwti]; exact h) hr hp (fun w hw => (quiet_put hsi h3).2 (hv w hw))
  | rel r h hr hv => exact .rel _ (by rw [hwti]; exact h) hr (fun w hw => (leaves_put hsi h3).2 (hv w hw))
 cases hmj with
 | skip hw =>
  refine ⟨oj', _, _, hj, .skip (by rw [← hwt v1]; exact hw), fun u hu => ?_⟩
  subst hu
  rw [add_true]
  refine ⟨o', V, F, hi, keep _, fun v hv => ?_⟩
  obtain ⟨oj2, Vj, Fj, hoj2, hmj, hkj⟩ := hk v hv
  obtain rfl : oj2 = oj' := Option.some.inj (hoj2.symm.trans hj)
  cases hmj with
  | skip h =>
   have := hkj undef rfl
   rw [add_true, Act.put_comm a v undef h2] at this
   exact this
  | exact v0 h => rw [hwt] at h; rw [hwt, h] at hw; cases hw
  | rel r h => rw [hwt] at h; rw [hwt, h] at hw; cases hw
 | exact v0 hw hr hp hv0 =>
  have hv0' : ∀ w, cls md ops W0 Φ j w → oj'.quietAt P a (Ext W0) w v0 := fun w hw => (quiet_put hsj h1).1 (hv0 w ((cls_add wji).2 hw))
  refine ⟨oj', _, _, hj, .exact v0 (by rw [← hwt v1]; exact hw) hr hp hv0', fun u hu => ?_⟩
  subst hu
  rw [add_true]
  refine ⟨o', V, F, hi, keep _, fun v hv => ?_⟩
  obtain ⟨oj2, Vj, Fj, hoj2, hmj, hkj⟩ := hk v hv
  obtain rfl : oj2 = oj' := Option.some.inj (hoj2.symm.trans hj)
  cases hmj with
  | skip h => rw [hwt] at h; rw [hwt, h] at hw; cases hw
  | exact v0' h hr' hp' hv' =>
   obtain ⟨w0, g1, g2⟩ := hs
   have hc : cls md ops W0 Φ j w0 := ⟨g1, fun k _ => g2 k⟩
   have e : v0' = u := quiet_one hp ((quiet_put hsj h1).1 (hv' w0 ((cls_add wji).2 hc))) (hv0' w0 hc)
   subst e
   have := hkj v0' rfl
   rw [add_true, Act.put_comm a v v0' h2] at this
   exact this
  | rel r h hr' => rw [hr] at hr'; cases hr'
 | rel r hw hr hvj =>
  refine ⟨oj', _, _, hj, .rel _ (by rw [← hwt v1]; exact hw) hr (fun w hw => (leaves_put hsj h1).1 (hvj w ((cls_add wji).2 hw))), fun u hu => ?_⟩
  obtain ⟨w1, g1, g2, g3⟩ := hu
  have last : ∀ v, V v → (∃ w, Ext W0 w ∧ (∀ k, add Φ i (F v) k w) ∧ Fj u w) → K (add (add Φ j (Fj u)) i (F v)) ((a.put oj'.dst u).put o'.dst v) := fun v hv hu => by
   obtain ⟨oj2, Vj2, Fj2, hoj2, hmj, hkj⟩ := hk v hv
   obtain rfl : oj2 = oj' := Option.some.inj (hoj2.symm.trans hj)
   cases hmj with
   | skip h => rw [hwt] at h; rw [hwt, h] at hw; cases hw
   | exact v0' h hr' => rw [hr] at hr'; cases hr'
   | rel r' h hr' hv' =>
    obtain rfl : Fj = Fj2 := Option.some.inj (hr.symm.trans hr')
    have := hkj u hu
    rw [add_comm, Act.put_comm a v u h2] at this
    exact this
  cases hm with
  | skip h => exact ⟨o', _, _, hi, .skip (by rw [hwti]; exact h), fun v hv => last v hv ⟨w1, g1, fun k => ⟨g2 k, fun _ => trivial⟩, g3⟩⟩
  | exact v0 h hr' hp hv => exact ⟨o', _, _, hi, .exact v0 (by rw [hwti]; exact h) hr' hp (fun w hw => (quiet_put hsi h3).2 (hv w ((cls_add wij).1 hw))), fun v hv => last v hv ⟨w1, g1, fun k => ⟨g2 k, fun _ => trivial⟩, g3⟩⟩
  | rel r' h hr' hv =>
   refine ⟨o', _, _, hi, .rel _ (by rw [hwti]; exact h) hr' (fun w hw => (leaves_put hsi h3).2 (hv w ((cls_add wij).1 hw))), fun v hv => ?_⟩
   obtain ⟨w2, q1, q2, q3⟩ := hv
   exact last v ⟨w2, q1, fun k => (q2 k).1, q3⟩ ⟨w2, q1, fun k => ⟨(q2 k).1, fun _ => q3⟩, (q2 j).2 rfl⟩
theorem step_mono {Φ : Facts} {j : Nat} {a : Act} {K K' : Facts → Act → Prop} (hR : LastsR R) (hΦ : Lasts Φ) (hs : Sat W0 Φ) (h : ∀ Φ' a', Lasts Φ' → Sat W0 Φ' → K Φ' a' → K' Φ' a') (hh : step P md ops W0 R Φ j K a) : step P md ops W0 R Φ j K' a := by
 obtain ⟨o, V, F, h1, h2, h3⟩ := hh
 exact ⟨o, V, F, h1, h2, fun v hv => h _ _ (h2.lasts hR hΦ v) (h2.sat hs hv) (h3 v hv)⟩
/-- whatever order is picked from here on -/
def any (P : Program) (md : Region.Mode) (ops : Array Oper) (W0 : World) (R : Nat → Option (Value → World → Prop)) (Q : Facts → Act → Prop) : Nat → Array Bool → Facts → Act → Prop
 | 0, listed, Φ, a => Region.ready md ops listed = [] ∧ Q Φ a
 | f + 1, listed, Φ, a => (Region.ready md ops listed = [] → Q Φ a) ∧ ∀ i ∈ Region.ready md ops listed, step P md ops W0 R Φ i (any P md ops W0 R Q f (listed.setIfInBounds i true)) a
theorem wp_of_step {Φ : Facts} {j : Nat} {a : Act} {w : World} {K : Facts → Act → Prop} {K' : Act → World → Prop} {Q' : Exit → Act → World → Prop} (hR : LastsR R) (hΦ : Lasts Φ) (hw : Ext W0 w) (hf : ∀ k, Φ k w)
 (h : ∀ Φ' a' w', Lasts Φ' → Ext W0 w' → (∀ k, Φ' k w') → K Φ' a' → K' a' w') (hh : step P md ops W0 R Φ j K a) : wpOp P ops Q' j K' a w := by
 obtain ⟨o, V, F, ho, hm, hk⟩ := hh
 unfold wpOp
 simp only [ho]
 have hl := hm.lasts hR hΦ
 cases hm with
 | skip hn =>
  simp only [hn]
  exact h _ _ _ (hl undef) hw (fun k => ⟨hf k, fun _ => trivial⟩) (hk undef rfl)
 | exact v0 hn hr hp hv =>
  simp only [hn, if_true]
  refine .inl ?_
  have h3 := hv w ⟨hw, fun k _ => hf k⟩
  have hK := hk v0 rfl
  unfold Oper.quietAt at h3
  unfold Oper.wp
  have hn := fun w' f args => no_enter (P := P) (w := w) (w' := w') (f := f) (args := args) hp (ρ := a.eval)
  generalize (execOp a.eval o).run P w = res at h3 hn
  cases res with
  | ok n w' =>
   cases n <;> simp only [Oper.quietUpon] at h3 <;> simp only [Oper.upon]
   case value u => obtain ⟨e1, e2⟩ := h3; subst e1 e2; exact h _ _ _ (hl u) hw (fun k => ⟨hf k, fun _ => trivial⟩) hK
   case skip => obtain ⟨e1, e2⟩ := h3; subst e1 e2; exact h _ _ _ (hl undef) hw (fun k => ⟨hf k, fun _ => trivial⟩) hK
   case enter f args => exact absurd rfl (hn w' f args)
  | halt x w' => simp only [Oper.quietUpon] at h3
 | rel r hn hr hv =>
  simp only [hn, if_true]
  refine .inl ?_
  have h3 := hv w ⟨hw, fun k _ => hf k⟩
  unfold leaves at h3
  unfold Oper.wp
  generalize (execOp a.eval o).run P w = res at h3
  cases res with
  | ok n w' =>
   cases n <;> simp only [upon] at h3 <;> simp only [Oper.upon]
   case value u => exact h _ _ _ (hl u) (hw.trans h3.1) (fun k => ⟨hΦ k _ _ (hf k) h3.1, fun _ => h3.2⟩) (hk u ⟨w', hw.trans h3.1, fun k => hΦ k _ _ (hf k) h3.1, h3.2⟩)
   case skip => exact h _ _ _ (hl undef) (hw.trans h3.1) (fun k => ⟨hΦ k _ _ (hf k) h3.1, fun _ => h3.2⟩) (hk undef ⟨w', hw.trans h3.1, fun k => hΦ k _ _ (hf k) h3.1, h3.2⟩)
   case enter f args =>
    obtain ⟨e1, hc⟩ := h3
    subst e1
    refine hc.mono fun e w'' he => ?_
    obtain ⟨u, he, hx, hu⟩ := he
    subst he
    exact h _ _ _ (hl u) (hw.trans hx) (fun k => ⟨hΦ k _ _ (hf k) hx, fun _ => hu⟩) (hk u ⟨w'', hw.trans hx, fun k => hΦ k _ _ (hf k) hx, hu⟩)
  | halt x w' => simp only [upon] at h3
theorem wpAny_of_any {Q : Facts → Act → Prop} {Q' : Exit → Act → World → Prop} (hR : LastsR R) (hQ : ∀ Φ a w, Ext W0 w → (∀ k, Φ k w) → Q Φ a → Q' .normal a w) :
 ∀ (f : Nat) (listed : Array Bool) (Φ : Facts) (a : Act) (w : World), Lasts Φ → Ext W0 w → (∀ k, Φ k w) → any P md ops W0 R Q f listed Φ a → wpAny P md ops Q' f listed a w
 | 0, _, _, _, _, _, hw, hf, h => ⟨h.1, hQ _ _ _ hw hf h.2⟩
 | f + 1, _, _, _, _, hl, hw, hf, h => ⟨fun h0 => hQ _ _ _ hw hf (h.1 h0), fun i hi => wp_of_step hR hl hw hf (fun Φ' a' w' hl' hw' hf' => wpAny_of_any hR hQ f _ Φ' a' w' hl' hw' hf') (h.2 i hi)⟩
/-- an operation that may come up now may be taken first -/
theorem any_first {Q : Facts → Act → Prop} {i : Nat} {oi : Oper} (hR : LastsR R) (hi : ops[i]? = some oi) (hsel : ∀ (j : Nat) (o : Oper) cs b, ops[j]? = some o → o.op ≠ .select cs b) :
 ∀ (f : Nat) (listed : Array Bool) (Φ : Facts) (a : Act), Lasts Φ → Sat W0 Φ →
  (∀ j oj, ops[j]? = some oj → j ≠ i → listed.getD j true = false → (∀ e ∈ oj.after, Region.binds md e = true → e.on ≠ i) → oi.apart ops oj = true) →
  i ∈ Region.ready md ops listed → step P md ops W0 R Φ i (any P md ops W0 R Q f (listed.setIfInBounds i true)) a → any P md ops W0 R Q (f + 1) listed Φ a := by
 intro f
 induction f with
 | zero =>
  intro listed Φ a hl hs _ hr H
  refine ⟨fun h => (by rw [h] at hr; cases hr), fun j hj => ?_⟩
  by_cases hji : j = i
  ·subst hji; exact H
  ·have hm := ready_mono hj hji
   obtain ⟨o, V, F, _, hmd, hk⟩ := H
   obtain ⟨v, hv⟩ := hmd.some hl hs
   rw [(hk v hv).1] at hm
   cases hm
 | succ f ih =>
  intro listed Φ a hl hs hfree hr H
  refine ⟨fun h => (by rw [h] at hr; cases hr), fun j hj => ?_⟩
  by_cases hji : j = i
  ·subst hji; exact H
  ·obtain ⟨hjun, oj, hoj, hall⟩ := mem_ready.1 hj
   obtain ⟨hiun, oi', hoi', halli⟩ := mem_ready.1 hr
   obtain rfl : oi = oi' := Option.some.inj (hi.symm.trans hoi')
   have hnot : ∀ e ∈ oj.after, Region.binds md e = true → e.on ≠ i := fun e he hb heq => by
    have h1 := hall e he hb
    rw [heq, getD_both hiun] at h1; cases h1
   have wji : Region.waitsFor md ops j i = false := by
    rw [← Bool.not_eq_true]; intro hw
    obtain ⟨o, ho, e, he, hb, hon⟩ := Region.waitsFor_spec hw
    obtain rfl : oj = o := Option.some.inj (hoj.symm.trans ho)
    exact hnot e he hb hon
   have wij : Region.waitsFor md ops i j = false := by
    rw [← Bool.not_eq_true]; intro hw
    obtain ⟨o, ho, e, he, hb, hon⟩ := Region.waitsFor_spec hw
    obtain rfl : oi = o := Option.some.inj (hi.symm.trans ho)
    have h1 := halli e he hb
    rw [hon, getD_both hjun] at h1; cases h1
   have hfree' : ∀ k ok, ops[k]? = some ok → k ≠ i → (listed.setIfInBounds j true).getD k true = false →
    (∀ e ∈ ok.after, Region.binds md e = true → e.on ≠ i) → oi.apart ops ok = true := fun k ok hk hki hun hno => by
    refine hfree k ok hk hki ?_ hno
    by_cases hjk : j = k
    ·subst hjk; exact hjun
    ·rw [getD_set_ne true hjk] at hun; exact hun
   have H2 : step P md ops W0 R Φ i (fun Φ1 a1 => step P md ops W0 R Φ1 j (any P md ops W0 R Q f ((listed.setIfInBounds i true).setIfInBounds j true)) a1) a :=
    step_mono hR hl hs (fun Φ' a' _ _ h => h.2 j (ready_mono hj hji)) H
   refine step_mono hR hl hs (fun Φ' a' hl' hs' h3 => ih (listed.setIfInBounds j true) Φ' a' hl' hs' hfree' (ready_mono hr (Ne.symm hji)) ?_)
    (swap hl hs hi hoj (hfree j oj hoj hji hjun hnot) (fun cs b => hsel i oi cs b hi) (fun cs b => hsel j oj cs b hoj) wji wij H2)
   rw [Array.setIfInBounds_comm _ _ hji]
   exact h3
/-- the walk in the order of the text -/
def walk (P : Program) (md : Region.Mode) (ops : Array Oper) (W0 : World) (R : Nat → Option (Value → World → Prop)) (Q : Facts → Act → Prop) : List Oper → Nat → Facts → Act → Prop
 | [], _, Φ, a => Q Φ a
 | _ :: l, k, Φ, a => step P md ops W0 R Φ k (walk P md ops W0 R Q l (k + 1)) a
theorem any_lex {Q : Facts → Act → Prop} (hR : LastsR R) (hs : Region.noSelect ops = true) : ∀ (l : List Oper) (k : Nat) (listed : Array Bool) (Φ : Facts) (a : Act), (∀ j, l[j]? = ops[k + j]?) →
 Region.lexFrom md ops l.length k listed = true → Lasts Φ → Sat W0 Φ → walk P md ops W0 R Q l k Φ a → any P md ops W0 R Q l.length listed Φ a
 | [], _, _, _, _, _, hB, _, _, h => ⟨by simpa [Region.lexFrom] using hB, h⟩
 | o :: l, k, listed, Φ, a, hl, hB, hL, hS, h => by
  have h0 : ops[k]? = some o := by simpa using (hl 0).symm
  simp only [List.length_cons, Region.lexFrom, Bool.and_eq_true] at hB
  obtain ⟨⟨hr, hf⟩, hB'⟩ := hB
  exact any_first hR h0 (Region.noSelect_spec hs) l.length listed Φ a hL hS (Region.free_spec h0 hf) (by simpa using hr)
   (step_mono hR hL hS (fun Φ' a' hL' hS' h' => any_lex hR hs l (k + 1) _ Φ' a' (fun j => by have := hl (j + 1); simpa [Nat.add_assoc, Nat.add_comm 1 j] using this) hB' hL' hS' h') h)
/-- The region. -/
theorem region {id : Nat} {Q : Exit → Act → World → Prop} {a : Act} {w W : World} {l : List Oper} (R : Nat → Option (Value → World → Prop)) (hR : LastsR R) (hm : P.follows .mixedOrders = true) (hB : Region.lexB .any l.toArray = true) (hW : Ext W w)
 (h : walk P .any l.toArray W R (fun Φ a' => ∀ w' : World, Ext W w' → (∀ k, Φ k w') → Q .normal a' w') l 0 (fun _ _ => True) a) : (Code.region id l.toArray true).wp P Q a w := by
 simp only [Region.lexB, Bool.and_eq_true] at hB
 refine wp_region_any hm (wpAny_of_any (Q := fun Φ a' => ∀ w' : World, Ext W w' → (∀ k, Φ k w') → Q .normal a' w') hR (fun Φ a w' hw' hf h => h w' hw' hf) _ _ _ _ _ (fun _ _ _ _ _ => trivial) hW.drew (fun _ => trivial) ?_)
 have := any_lex (P := P) (md := .any) hR hB.1 l 0 (Array.replicate l.toArray.size false) (fun _ _ => True) a (by simp) (by simpa using hB.2) (fun _ _ _ _ _ => trivial) ⟨W, eR W, fun _ => trivial⟩ h
 simpa using this
/-- some operations that need no fact, walked by the quiet walk -/
theorem chunk' {Q : Facts → Act → Prop} : ∀ (m : Nat) {l : List Oper} {k : Nat} {Φ : Facts} {a : Act}, (∀ j, l[j]? = ops[k + j]?) → (List.range m).all (fun j => (R (k + j)).isNone) = true → (l.take m).all pureB = true →
 wpQuiet P ops (fun w' => ∃ x : Later W0, w' = x.val) (fun a' => walk P md ops W0 R Q (l.drop m) (k + m) Φ a') (l.take m) a → walk P md ops W0 R Q l k Φ a
 | 0, l, k, Φ, a, _, _, _, h => by simpa [wpQuiet] using h
 | m + 1, [], k, Φ, a, _, _, _, h => by simpa [wpQuiet, walk] using h
 | m + 1, o :: l, k, Φ, a, hl, hR, hp, h => by
  have h0 : ops[k]? = some o := by simpa using (hl 0).symm
  have hn : R k = none := by
   have := List.all_eq_true.1 hR 0 (List.mem_range.2 (by omega))
   simpa using this
  simp only [tkS, List.all_cons, Bool.and_eq_true] at hp
  have hl' : ∀ j, l[j]? = ops[k + 1 + j]? := fun j => by have := hl (j + 1); simpa [Nat.add_assoc, Nat.add_comm 1 j] using this
  have hR' : (List.range m).all (fun j => (R (k + 1 + j)).isNone) = true := List.all_eq_true.2 fun j hj => by
   have := List.all_eq_true.1 hR (j + 1) (List.mem_range.2 (by have := List.mem_range.1 hj; omega))
   rw [show k + 1 + j = k + (j + 1) by omega]; exact this
  have go : ∀ a', wpQuiet P ops (fun w' => ∃ x : Later W0, w' = x.val) (fun a' => walk P md ops W0 R Q ((o :: l).drop (m + 1)) (k + (m + 1)) Φ a') (l.take m) a' → walk P md ops W0 R Q l (k + 1) Φ a' := fun a' h' =>
   chunk' m hl' hR' hp.2 (by rw [show k + 1 + m = k + (m + 1) by omega]; simpa using h')
  simp only [tkS, wpQuiet] at h
  by_cases hw : Region.wanted o (yielded ops a.tmps) = true
  ·rw [if_pos hw] at h
   obtain ⟨v0, hv, hk⟩ := h
   refine ⟨o, _, _, h0, .exact v0 hw hn hp.1 (fun w hc => ?_), fun v hv => ?_⟩
   ·have := hv w ⟨⟨w, hc.1⟩, rfl⟩
    have e : (fun w' => ∃ x : Later W0, w' = x.val) = Ext W0 := by
     funext w'; exact propext ⟨fun ⟨x, hx⟩ => by subst hx; exact x.ext, fun h => ⟨⟨w', h⟩, rfl⟩⟩
    rw [e] at this; exact this
   ·subst hv; rw [add_true]; exact go _ hk
  ·rw [if_neg hw] at h
   refine ⟨o, _, _, h0, .skip (by simpa using hw), fun v hv => ?_⟩
   subst hv; rw [add_true]; exact go _ h
theorem chunk (m : Nat) {Q : Facts → Act → Prop} {l : List Oper} {k : Nat} {Φ : Facts} {a : Act} (hl : ops.toList.drop k = l) (hR : (List.range m).all (fun j => (R (k + j)).isNone) = true) (hp : (l.take m).all pureB = true)
 (h : wpQuiet P ops (fun w' => ∃ x : Later W0, w' = x.val) (fun a' => walk P md ops W0 R Q (l.drop m) (k + m) Φ a') (l.take m) a) : walk P md ops W0 R Q l k Φ a :=
 chunk' m (fun j => by rw [← hl]; simp) hR hp h
/-- the table of relations -/
def tab (l : List (Nat × (Value → World → Prop))) (j : Nat) : Option (Value → World → Prop) := (l.find? fun p => p.1 == j).map (·.2)
theorem tab_lasts {l : List (Nat × (Value → World → Prop))} (h : ∀ p ∈ l, ∀ v w w', p.2 v w → Ext w w' → p.2 v w') : LastsR (tab l) := by
 intro j r hr v w w' h1 hx
 unfold tab at hr
 cases hf : l.find? fun p => p.1 == j with
 | none => rw [hf] at hr; cases hr
 | some p =>
  rw [hf] at hr
  obtain rfl : p.2 = r := Option.some.inj hr
  exact h p (List.mem_of_find?_eq_some hf) v w w' h1 hx
/-- a call whose result is known by a relation -/
theorem call {Q : Facts → Act → Prop} {o : Oper} {l : List Oper} {k : Nat} {Φ : Facts} {a : Act} (r : Value → World → Prop) (hk : ops[k]? = some o) (hr : R k = some r) (hw : Region.wanted o (yielded ops a.tmps) = true)
 (h1 : ∀ w, Ext W0 w → (∀ i, Region.waitsFor md ops k i = true → Φ i w) → leaves P r o a w)
 (h2 : ∀ v w, Ext W0 w → (∀ i, Φ i w) → r v w → walk P md ops W0 R Q l (k + 1) (add Φ k (r v)) (a.put o.dst v)) : walk P md ops W0 R Q (o :: l) k Φ a :=
 ⟨o, _, _, hk, .rel r hw hr (fun w hc => h1 w hc.1 hc.2), fun v ⟨w, g1, g2, g3⟩ => h2 v w g1 g2 g3⟩
/-- the same at a call of a function that is named -/
theorem callG {Q : Facts → Act → Prop} {dst : Option Tmp} {f : FuncId} {xs : Array Operand} {ats : Array TypeId} {ty : TypeId} {pos : String} {after : Array Edge} {guard : Option (Nat × Bool)} {l : List Oper} {k : Nat} {Φ : Facts} {a : Act} {fn : Func} (r : Value → World → Prop)
 (hk : ops[k]? = some { dst, op := .call { callee := .value (.func f), args := xs, argTypes := ats }, type := ty, pos, after, guard }) (hr : R k = some r) (hw : Region.wanted { dst, op := .call { callee := .value (.func f), args := xs, argTypes := ats }, type := ty, pos, after, guard } (yielded ops a.tmps) = true)
 (hf : P.funcs[f]? = some fn) (hb : fn.body ≠ none) (hn : fn.name ≠ "runtime.NumGoroutine") (args : Array Value) (ha : args.toList = xs.toList.map a.eval)
 (h1 : ∀ w, Ext W0 w → (∀ i, Region.waitsFor md ops k i = true → Φ i w) → Calls P f args w (fun e w'' => ∃ v, e = .returned v ∧ Ext w w'' ∧ r v w''))
 (h2 : ∀ v w, Ext W0 w → (∀ i, Φ i w) → r v w → walk P md ops W0 R Q l (k + 1) (add Φ k (r v)) (a.put dst v)) :
 walk P md ops W0 R Q ({ dst, op := .call { callee := .value (.func f), args := xs, argTypes := ats }, type := ty, pos, after, guard } :: l) k Φ a :=
 call r hk hr hw (fun w h3 h4 => by
  have e : (execOp a.eval { dst, op := .call { callee := .value (.func f), args := xs, argTypes := ats }, type := ty, pos, after, guard }).run P w = .ok (.enter f args) w := by
   have ha' : xs.map a.eval = args := Array.ext' (by rw [ha]; simp)
   rw [execOp_call_go, ha']
   simp [callFunc, hf, hb, hn, Sem.run_bind]
  unfold leaves
  rw [e]
  exact ⟨rfl, h1 w h3 h4⟩) h2
theorem fin {Q : Facts → Act → Prop} {k : Nat} {Φ : Facts} {a : Act} (h : Q Φ a) : walk P md ops W0 R Q [] k Φ a := h
end
end Rel
namespace Ps
theorem leads_acc (n : Nat) (s : Int) : leads n s (-1) = true := by simp [leads]
theorem leads_rej (n : Nat) (s : Int) : leads n s (-2) = true := by simp [leads]
theorem leads_st {n : Nat} {s x : Int} (h1 : ¬ x = -1) (h2 : ¬ x = -2) : leads n s x = (decide (s < x) && decide (x < n)) := by
 unfold leads; rw [bF h1, bF h2]; rfl
end Ps
theorem st_at {w : World} {b o n c : Nat} {ss : List Ps.St} {oa : Option Addr} (h : Rows w 7 Ps.StR (.slice oa n c) ss) (k : Nat) (x : Ps.St) (hk : ss[k]? = some x) (hoa : oa = some ⟨b, o, none⟩) :
 ∃ ea ec ca cc, x.nm.size ≤ maxLen ∧ Ns .i64 w (.slice ea x.ex.length ec) x.ex ∧ Ps.Cases w (.slice ca x.cs.length cc) x.cs ∧ x.cs.length ≤ cc ∧ cc ≤ maxLen ∧
  w.cell? ⟨b, o + k * 7, none⟩ = some (.string x.nm) ∧ w.cell? ⟨b, o + k * 7 + 1, none⟩ = some (.slice ea x.ex.length ec) ∧ w.cell? ⟨b, o + k * 7 + 2, none⟩ = some (.bool x.sel) ∧
  w.cell? ⟨b, o + k * 7 + 3, none⟩ = some (.int .i64 x.h) ∧ w.cell? ⟨b, o + k * 7 + 4, none⟩ = some (.int .i64 x.f) ∧ w.cell? ⟨b, o + k * 7 + 5, none⟩ = some (.slice ca x.cs.length cc) ∧ w.cell? ⟨b, o + k * 7 + 6, none⟩ = some (.int .i64 x.df) := by
 obtain ⟨b', o', e, _, h4⟩ := h.at (by have := (List.getElem?_eq_some_iff.1 hk).1; omega)
 rw [hoa] at e
 simp only [Option.some.injEq, Addr.mk.injEq, and_true] at e
 obtain ⟨rfl, rfl⟩ := e
 obtain ⟨cs, _, ⟨ev, cv, rfl, h1, h2, h3⟩, hc⟩ := h4 k x hk
 obtain ⟨ea, ec, rfl⟩ := ns_slice h2
 obtain ⟨ca, cc, rfl, k1, k2⟩ := h3.slice
 exact ⟨ea, ec, ca, cc, h1, h2, h3, k1, k2, hc 0 _ rfl, hc 1 _ rfl, hc 2 _ rfl, hc 3 _ rfl, hc 4 _ rfl, hc 5 _ rfl, hc 6 _ rfl⟩
theorem case_at {w : World} {b o n c : Nat} {cs : List Ps.Case} {oa : Option Addr} (h : Ps.Cases w (.slice oa n c) cs) (k : Nat) (x : Ps.Case) (hk : cs[k]? = some x) (hoa : oa = some ⟨b, o, none⟩) :
 U32 x.v ∧ U32 x.m ∧ w.cell? ⟨b, o + k * 3, none⟩ = some (.int .u32 x.v) ∧ w.cell? ⟨b, o + k * 3 + 1, none⟩ = some (.int .u32 x.m) ∧ w.cell? ⟨b, o + k * 3 + 2, none⟩ = some (.int .i64 x.nx) := by
 obtain ⟨b', o', e, _, h4⟩ := Rows.at h (by have := (List.getElem?_eq_some_iff.1 hk).1; omega)
 rw [hoa] at e
 simp only [Option.some.injEq, Addr.mk.injEq, and_true] at e
 obtain ⟨rfl, rfl⟩ := e
 obtain ⟨cc, _, ⟨rfl, h1, h2⟩, hc⟩ := h4 k x hk
 exact ⟨h1, h2, hc 0 _ rfl, hc 1 _ rfl, hc 2 _ rfl⟩
theorem leads_any {W : World} {p : Pg.PV} {P : Pg.Prog} {ss : List Ps.St} (hq : Ps.IsQ W p P ss) (st x : Int) : Calls Tryz.prog 115 #[p.val, .int .i64 st, .int .i64 x] W (Rets W (.bool (Ps.leads ss.length st x))) := by
 obtain ⟨s, a1, a2, a3, a4, a5, a6, a7, a8, m1, m2, n3, m3, n4, m4, n5, m5, n6, m6, n7, m7, m8, hf⟩ := hq.1.form
 obtain ⟨rfl, hhs, hmd, _, hl1, hl2, _⟩ := hf
 have hss := hq.2
 dsimp only at hss
 obtain ⟨a6', m6', e6, hl6, hc6⟩ := hss.slice
 simp only [Value.slice.injEq] at e6
 obtain ⟨rfl, rfl, rfl⟩ := e6
 unfold maxLen at hc6
 dsimp only [Pg.PV.val]
 have be := aH W (.cells #[.string s, .slice a1 P.hs.length m1, .slice a2 P.md.length m2, .slice a3 n3 m3, .slice a4 n4 m4, .slice a5 n5 m5, .slice a6 ss.length m6, .slice a7 n7 m7, .slice a8 P.dp.length m8] 31)
 have k6 := alw (cQ 6 be)
 clear be
 clear hq hhs hmd hss
 by_cases h1 : x = -1
 ·subst h1
  rw [Ps.leads_acc]
  go_enter Tryz.func115, Tryz.ntmps115
  go_wp2_with fail
  go_ret
  exact ⟨ret_bool (by rfl), grows⟩
 ·have f1 : (x == -1) = false := bF h1
  by_cases h2 : x = -2
  ·subst h2
   rw [Ps.leads_rej]
   go_enter Tryz.func115, Tryz.ntmps115
   go_wp2_with fail
   go_ret
   exact ⟨ret_bool (by rfl), grows⟩
  ·have f2 : (x == -2) = false := bF h2
   rw [Ps.leads_st h1 h2]
   by_cases h3 : st < x
   ·have d1 : decide (st < x) = true := dTt (by omega)
    rw [d1, Bool.true_and]
    go_enter Tryz.func115, Tryz.ntmps115
    go_wp2_with fail
    go_ret
    exact ⟨ret_bool (by rfl), grows⟩
   ·have d1 : decide (st < x) = false := dF (by omega)
    rw [d1, Bool.false_and]
    go_enter Tryz.func115, Tryz.ntmps115
    go_wp2_with fail
    go_ret
    exact ⟨ret_bool (by rfl), grows⟩
end Go.Proofs.YtkiafiaodockbaaGreat
