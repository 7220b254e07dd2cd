/- Registers: New and its reference, walked. Programs whole: their data, and how they lie in memory. Expressions: what Check says of them: plain definitions. Actions, calls, tables, control flow, entries: what the checks say of them: plain definitions. Programs whole in memory: their forms; the small functions of expressions, walked. Expressions: the widths of nodes, walked. Expressions: combine, check, Check, walked. No condition. -/
import Derived.Test.YthmokhkkdgnbhaaGreatJqAC
import Derived.Deep.OwnRows
set_option maxRecDepth 8000
set_option maxHeartbeats 16000000
namespace Go.Proofs.YthmokhkkdgnbhaaGreat
open Go.RowKit
theorem alwF {W : World} {p o : Nat} {c : Array Value} {t : TypeId} (h : W.heap[p]? = some (.cells c t (0, 0))) (w : World) [g : Grows W w] : w.frozen? ⟨p, o, none⟩ = false := free_of (g.out.heap h)
theorem info_u32s : (Tryz.prog.info? 61).map (fun i => (i.zero, i.size, i.bytes)) = some (some (.slice none 0 0), 1, 24) := by kernel_rfl
theorem mk_row (n : Nat) (h : n ≤ 1000000) (w : World) : (Instr.makeSlice 61 (.int .i64 (n : Int)) (.int .i64 (n : Int))).run Tryz.prog w = .ok (.slice (some ⟨w.heap.size, 0, none⟩) n n) (w.alloc (.cells (madeCells #[.int .u32 0] n) 118)) :=
 run_make_row' _ _ _ 4 Tryz.underlying61 info_u32 rfl _ _ n (by omega) (by omega) w
theorem mk_tab (n : Nat) (h : n ≤ 1000000) (w : World) : (Instr.makeSlice 43 (.int .i64 (n : Int)) (.int .i64 (n : Int))).run Tryz.prog w = .ok (.slice (some ⟨w.heap.size, 0, none⟩) n n) (w.alloc (.cells (madeCells #[.slice none 0 0] n) 61)) :=
 run_make_row' _ _ _ 24 Tryz.underlying43 info_u32s rfl _ _ n (by omega) (by omega) w
theorem made_list (z : Value) (n : Nat) : (madeCells #[z] n).toList = List.replicate n z := by
 apply List.ext_getElem
 ·simp [madeCells]
 ·intro i h1 h2; simp [madeCells, Nat.mod_one]
theorem own_made {B : Nat} {w : World} {m : Nat} (hB : B ≤ w.heap.size) (hm : m ≤ maxLen) : (w.alloc (.cells (madeCells #[.int .u32 0] m) 118)).ownsRow B 118 1 (.slice (some ⟨w.heap.size, 0, none⟩) m m) (List.replicate m (0 : Int)).length ((List.replicate m (0 : Int)).map (.int .u32)) := by
 refine ⟨by simp, .inr ⟨w.heap.size, m, _, by simp, hB, aH w _, by simp, hm, by simp [madeCells], ?_⟩⟩
 rw [made_list]; simp
theorem zero_u32 {m : Nat} : ∀ x ∈ List.replicate m (0 : Int), U32 x := fun x hx => by
 obtain rfl := List.eq_of_mem_replicate hx; exact ⟨by decide, by decide⟩
theorem Tab.made {B : Nat} {w : World} {n : Nat} (hB : B ≤ w.heap.size) (hm : n ≤ maxLen) : Tab B (w.alloc (.cells (madeCells #[.slice none 0 0] n) 61)) (.slice (some ⟨w.heap.size, 0, none⟩) n n) (List.replicate n (.slice none 0 0)) (List.replicate n []) := by
 refine ⟨by simp, ⟨by simp, .inr ⟨w.heap.size, n, _, by simp, hB, aH w _, by simp, hm, by simp [madeCells], ?_⟩⟩, fun i u l hu hl => ?_, fun i j u u' k hu hu' h1 h2 => ?_⟩
 ·rw [made_list]; simp
 ·obtain rfl := List.eq_of_mem_replicate (List.mem_of_getElem? hu)
  obtain rfl := List.eq_of_mem_replicate (List.mem_of_getElem? hl)
  exact ⟨World.ownsRow_nil _ _ _ _, by simp⟩
 ·obtain rfl := List.eq_of_mem_replicate (List.mem_of_getElem? hu)
  simp [Value.ownBlock] at h1
namespace Rg
def newR (r : Reg) : List Int := if szB r then List.replicate r.s.toNat 0 else []
def new (rs : List Reg) : List (List Int) := rs.map newR
/-- a list of lists, as far as k; the others are empty -/
def part (l : List (List Int)) (k : Nat) : List (List Int) := l.take k ++ List.replicate (l.length - k) []
theorem part_len (l : List (List Int)) {k : Nat} (h : k ≤ l.length) : (part l k).length = l.length := by simp [part]; omega
theorem part_zero (l : List (List Int)) : part l 0 = List.replicate l.length [] := by simp [part]
theorem part_full (l : List (List Int)) : part l l.length = l := by simp [part]
theorem part_get {l : List (List Int)} {k : Nat} (h : k < l.length) : (part l k)[k]? = some [] := by
 unfold part
 have hl : (l.take k).length = k := by simp; omega
 rw [List.getElem?_append_right (by omega), hl, Nat.sub_self, show l.length - k = (l.length - (k + 1)) + 1 by omega, List.replicate_succ]; rfl
theorem set_same {α : Type} {l : List α} {k : Nat} {x : α} (h : l[k]? = some x) : l.set k x = l := by
 apply List.ext_getElem?; intro i
 by_cases hi : k = i
 ·subst hi; rw [List.getElem?_set_self (List.getElem?_eq_some_iff.1 h).1, h]
 ·rw [List.getElem?_set_ne hi]
theorem part_succ {l : List (List Int)} {k : Nat} {x : List Int} (h : l[k]? = some x) : part l (k + 1) = (part l k).set k x := by
 have hlt := (List.getElem?_eq_some_iff.1 h).1
 unfold part
 have hl : (l.take k).length = k := by simp; omega
 rw [List.set_append_right _ _ (by omega), hl, Nat.sub_self, show l.length - k = (l.length - (k + 1)) + 1 by omega, List.replicate_succ, stZ, List.take_add_one, h]
 simp
theorem new_at {rs : List Reg} {k : Nat} {r : Reg} (h : rs[k]? = some r) : (new rs)[k]? = some (newR r) := by unfold new; simp [h]
theorem new_len (rs : List Reg) : (new rs).length = rs.length := by simp [new]
end Rg
/-- what a call that makes a table leaves -/
def TabP (W : World) (ls : List (List Int)) (e : Ending) (W' : World) : Prop := ∃ v vs, e = .returned v ∧ Ext W W' ∧ Tab W.heap.size W' v vs ls
theorem tab_ret {W W' : World} {v : Value} {vs : List Value} {ls : List (List Int)} (hx : Ext W W') (h : Tab W.heap.size W' v vs ls) : TabP W ls (.returned v) W' := ⟨v, vs, rfl, hx, h⟩
theorem Tab.lt {B : Nat} {w : World} {v : Value} {vs : List Value} {ls : List (List Int)} (h : Tab B w v vs ls) {j : Nat} {u : Value} {k : Nat} (hu : vs[j]? = some u) (hk : u.ownBlock = some k) : k < w.heap.size := by
 obtain ⟨l, hl⟩ : ∃ l, ls[j]? = some l := ⟨_, gE (by rw [← h.1]; exact (List.getElem?_eq_some_iff.1 hu).1)⟩
 exact own_lt (h.2.2.1 j u l hu hl).1 hk
/-- the table's cell k, for good: what it holds, and that it may be written -/
theorem Tab.at {B : Nat} {w : World} {G n c : Nat} {vs : List Value} {ls : List (List Int)} (h : Tab B w (.slice (some ⟨G, 0, none⟩) n c) vs ls) {k : Nat} (hk : k < ls.length) : ∃ u, vs[k]? = some u ∧ (∀ w' [Grows w w'], w'.cell? ⟨G, k, none⟩ = some u) ∧ (∀ w' [Grows w w'], w'.frozen? ⟨G, k, none⟩ = false) := by
 obtain ⟨u, hu⟩ : ∃ u, vs[k]? = some u := ⟨_, gE (by rw [h.1]; exact hk)⟩
 obtain ⟨cur, hG, _⟩ := own_heap h.2.1 (k := G) rfl
 have h1 := h.2.1.cells (g := G) rfl k u hu
 rw [add_mk, Nat.zero_add] at h1
 exact ⟨u, hu, alw h1, alwF hG⟩
theorem new_any {W : World} {s : ByteArray} {a1 a2 a3 a4 a5 a6 a7 a8 : Option Addr} {n1 m1 n2 m2 m3 n4 m4 n5 m5 n6 m6 n7 m7 n8 m8 : Nat} {rs : List Rg.Reg} (hr : Rows W 3 Rg.RegR (.slice a3 rs.length m3) rs) (h8 : rs.length ≤ 8) :
 Calls Tryz.prog 58 #[.agg #[.string s, .slice a1 n1 m1, .slice a2 n2 m2, .slice a3 rs.length m3, .slice a4 n4 m4, .slice a5 n5 m5, .slice a6 n6 m6, .slice a7 n7 m7, .slice a8 n8 m8]] W (TabP W (Rg.new rs)) := by
 obtain ⟨_, _, he, lb, mb⟩ := hr.slice
 simp only [Value.slice.injEq, true_and] at he
 obtain ⟨rfl, rfl⟩ := he
 unfold maxLen at mb
 have HR := Lh hr
 clear hr
 have bb := aH W (.cells #[.string s, .slice a1 n1 m1, .slice a2 n2 m2, .slice a3 rs.length m3, .slice a4 n4 m4, .slice a5 n5 m5, .slice a6 n6 m6, .slice a7 n7 m7, .slice a8 n8 m8] 31)
 have p0 := alw (cQ 0 bb)
 have p1 := alw (cQ 1 bb)
 have p2 := alw (cQ 2 bb)
 have p3 := alw (cQ 3 bb)
 have p4 := alw (cQ 4 bb)
 have p5 := alw (cQ 5 bb)
 have p6 := alw (cQ 6 bb)
 have p7 := alw (cQ 7 bb)
 have p8 := alw (cQ 8 bb)
 clear bb
 have hmt := mk_tab rs.length (by omega)
 go_enter Tryz.func58, Tryz.ntmps58
 go_wp2_with fail
 go_loopw [13] (fun i wr => ∃ k : Nat, k ≤ rs.length ∧ i = .int .i64 k ∧ Hid (Ext (W.alloc (.cells #[.string s, .slice a1 n1 m1, .slice a2 n2 m2, .slice a3 rs.length m3, .slice a4 n4 m4, .slice a5 n5 m5, .slice a6 n6 m6, .slice a7 n7 m7, .slice a8 n8 m8] 31)) wr ∧ ∃ vs, Tab W.heap.size wr (.slice (some ⟨W.heap.size + 1, 0, none⟩) rs.length rs.length) vs (Rg.part (Rg.new rs) k))) (fun i _ => rs.length - (intOf i).toNat)
 case atStart =>
  refine ⟨0, Nat.zero_le _, rfl, Lh ⟨(eR _).alloc _, List.replicate rs.length (.slice none 0 0), ?_⟩⟩
  rw [Rg.part_zero, Rg.new_len]
  have h := Tab.made (B := W.heap.size) (w := W.alloc (.cells #[.string s, .slice a1 n1 m1, .slice a2 n2 m2, .slice a3 rs.length m3, .slice a4 n4 m4, .slice a5 n5 m5, .slice a6 n6 m6, .slice a7 n7 m7, .slice a8 n8 m8] 31)) (n := rs.length) (by rw [szA]; omega) (by unfold maxLen; omega)
  rw [szA] at h
  exact h
 case round =>
  obtain ⟨k, hk, rfl, HI⟩ := hrel
  obtain ⟨v1, rfl⟩ : ∃ v1 : World, v1 = wr := ⟨_, rfl⟩
  obtain ⟨hx, vs, ht⟩ := HI.out
  have sx := Sm hx
  have HT := Lh ht
  have HX := Lh hx
  have hsz := hx.le
  rw [szA] at hsz
  have hlp : (Rg.part (Rg.new rs) k).length = rs.length := (Rg.part_len _ (by rw [Rg.new_len]; omega)).trans (Rg.new_len rs)
  by_cases hlt : k < rs.length
  ·obtain ⟨⟨gn, gw, gs⟩, hgk⟩ : ∃ y, rs[k]? = some y := ⟨_, gE hlt⟩
   obtain ⟨b2, o2, hb2, _, _⟩ := Rows.at HR.out (by omega)
   subst hb2
   obtain ⟨f3, f4, f5, q3, q1, q2⟩ := regs_at HR.out k _ hgk rfl
   dsimp only at f3 f4 f5
   obtain ⟨u, hu, hc, hf⟩ := ht.at (k := k) (by omega)
   have HPS := Lh (Rg.part_succ (Rg.new_at hgk))
   have HPG := Lh (Rg.part_get (l := Rg.new rs) (k := k) (by rw [Rg.new_len]; exact hlt))
   have HLP := Lh hlp
   clear ht hx HI hgk hlp q3
   cases hs : Rg.szB ⟨gn, gw, gs⟩ with
   | false =>
    have HNR : Hid (Rg.newR ⟨gn, gw, gs⟩ = []) := Lh (by unfold Rg.newR; rw [hs]; rfl)
    go_wp2_with (go_at_call 104; refine (sized_any ⟨gn, gw, gs⟩ _).mono ?_; rintro e w2 ⟨rfl, x2⟩; rw [hs]; have s2 := Sm x2)
    go_roundw
    case rel => exact ⟨k + 1, by omega, by go_num, Lh ⟨HX.out.trans (grows (a := v1)), vs, by rw [HPS.out, HNR.out, Rg.set_same HPG.out]; exact HT.out.ext (grows (a := v1))⟩⟩
    case measure => simp [intOf]; omega
   | true =>
    obtain ⟨m, rfl, hm⟩ : ∃ m : Nat, gs = m ∧ m ≤ 64 := by
     unfold Rg.szB at hs
     simp only [Bool.and_eq_true, decide_eq_true_eq] at hs
     exact ⟨gs.toNat, by omega, by omega⟩
    have HNR : Hid (Rg.newR ⟨gn, gw, (m : Int)⟩ = List.replicate m 0) := Lh (by unfold Rg.newR; rw [hs, if_pos rfl, Int.toNat_natCast])
    have hmr := mk_row m (by omega)
    have bb := aH v1 (.cells #[.string gn, .int .i64 gw, .int .i64 (m : Int)] 98)
    have r0 := alw (cQ 0 bb)
    have r1 := alw (cQ 1 bb)
    have r2 := alw (cQ 2 bb)
    clear bb
    go_wp2_with (go_at_call 104; refine (sized_any ⟨gn, gw, (m : Int)⟩ _).mono ?_; rintro e w2 ⟨rfl, x2⟩; rw [hs]; have s2 := Sm x2)
    go_roundw
    case rel =>
     have gr : Ext v1 w2 := grows (a := v1)
     refine ⟨k + 1, by omega, by go_num, Lh ⟨((HX.out.trans gr).alloc _).setCell (by rw [szA]; exact Nat.le_refl _) _, vs.set k (.slice (some ⟨w2.heap.size, 0, none⟩) m m), ?_⟩⟩
     rw [HPS.out, HNR.out]
     exact Tab.setRow (HT.out.ext (gr.alloc _)) (by rw [HLP.out]; exact hlt) (own_made (by have := gr.le; omega) (by unfold maxLen; omega)) zero_u32 (fun j y hy e => by have h1 := HT.out.lt hy e; have h2 := gr.le; omega)
    case measure => simp [intOf]; omega
  ·obtain rfl : k = rs.length := by omega
   go_wp2_with fail
   go_ret
   have h := HT.out
   rw [show Rg.part (Rg.new rs) rs.length = Rg.new rs by have := Rg.part_full (Rg.new rs); rw [Rg.new_len] at this; exact this] at h
   exact tab_ret (((eR W).alloc _).trans HX.out) h
namespace Tj
/-- a node of an expression -/
structure EN where
 op : Int
 n : Int
 w : Int
structure Stm where
 k : Int
 dh : Int
 df : Int
 rg : Int
 hd : Int
 ix : List EN
 va : List EN
structure Act where
 nm : ByteArray
 ps : List Hd.Fld
 bd : List Stm
structure Key where
 h : Int
 f : Int
 k : Int
structure Call where
 a : Int
 ar : List Int
structure Tab where
 nm : ByteArray
 ks : List Key
 ac : List Int
 df : Call
 sz : Int
/-- a control node: its kind, table and condition; how many nodes stand below it -/
structure CN where
 k : Int
 t : Int
 c : List EN
 th : Nat
 el : Nat
structure FP where
 nm : ByteArray
 P : Pg.Prog
 rs : List Rg.Reg
 ac : List Act
 ts : List Tab
 ss : List Ps.St
 cs : List CN
 nest : Nat
abbrev B64 (x : Int) : Prop := Rg.B64 x
def ENR (_w : World) (cs : List Value) (d : EN) : Prop := cs = [.int .i64 d.op, .int .i64 d.n, .int .i64 d.w] ∧ B64 d.op ∧ B64 d.n ∧ B64 d.w
abbrev Exp (w : World) (v : Value) (l : List EN) : Prop := Rows w 3 ENR v l
theorem Exp.ext {w w' : World} {v : Value} {l : List EN} (h : Exp w v l) (hx : Ext w w') : Exp w' v l := Rows.ext h (fun _ _ h => h) hx
def StmR (w : World) (cs : List Value) (d : Stm) : Prop := ∃ xv vv, cs = [.int .i64 d.k, .int .i64 d.dh, .int .i64 d.df, .int .i64 d.rg, .int .i64 d.hd, xv, vv] ∧ (B64 d.k ∧ B64 d.dh ∧ B64 d.df ∧ B64 d.rg ∧ B64 d.hd) ∧ Exp w xv d.ix ∧ Exp w vv d.va
theorem StmR.ext {w w' : World} {cs : List Value} {d : Stm} (h : StmR w cs d) (hx : Ext w w') : StmR w' cs d := by
 obtain ⟨xv, vv, h1, h2, h3, h4⟩ := h; exact ⟨xv, vv, h1, h2, h3.ext hx, h4.ext hx⟩
abbrev Stms (w : World) (v : Value) (l : List Stm) : Prop := Rows w 7 StmR v l
theorem Stms.ext {w w' : World} {v : Value} {l : List Stm} (h : Stms w v l) (hx : Ext w w') : Stms w' v l := Rows.ext h (fun _ _ h => h.ext hx) hx
def ActR (w : World) (cs : List Value) (d : Act) : Prop := ∃ pv bv, cs = [.string d.nm, pv, bv] ∧ d.nm.size ≤ maxLen ∧ Hd.Flds w pv d.ps ∧ Stms w bv d.bd
theorem ActR.ext {w w' : World} {cs : List Value} {d : Act} (h : ActR w cs d) (hx : Ext w w') : ActR w' cs d := by
 obtain ⟨pv, bv, h1, h2, h3, h4⟩ := h; exact ⟨pv, bv, h1, h2, h3.ext hx, h4.ext hx⟩
abbrev Acts (w : World) (v : Value) (l : List Act) : Prop := Rows w 3 ActR v l
theorem Acts.ext {w w' : World} {v : Value} {l : List Act} (h : Acts w v l) (hx : Ext w w') : Acts w' v l := Rows.ext h (fun _ _ h => h.ext hx) hx
def KeyR (_w : World) (cs : List Value) (d : Key) : Prop := cs = [.int .i64 d.h, .int .i64 d.f, .int .i64 d.k] ∧ B64 d.h ∧ B64 d.f ∧ B64 d.k
abbrev Keys (w : World) (v : Value) (l : List Key) : Prop := Rows w 3 KeyR v l
theorem Keys.ext {w w' : World} {v : Value} {l : List Key} (h : Keys w v l) (hx : Ext w w') : Keys w' v l := Rows.ext h (fun _ _ h => h) hx
/-- integers of Go's int -/
abbrev Is (w : World) (v : Value) (l : List Int) : Prop := Ns .i64 w v l ∧ ∀ x ∈ l, B64 x
theorem Is.ext {w w' : World} {v : Value} {l : List Int} (h : Is w v l) (hx : Ext w w') : Is w' v l := ⟨h.1.ext hx, h.2⟩
/-- words of 32 bits -/
abbrev Us (w : World) (v : Value) (l : List Int) : Prop := Ns .u32 w v l ∧ ∀ x ∈ l, U32 x
theorem Us.ext {w w' : World} {v : Value} {l : List Int} (h : Us w v l) (hx : Ext w w') : Us w' v l := ⟨h.1.ext hx, h.2⟩
def CallR (w : World) (cs : List Value) (d : Call) : Prop := ∃ av, cs = [.int .i64 d.a, av] ∧ B64 d.a ∧ Us w av d.ar
theorem CallR.ext {w w' : World} {cs : List Value} {d : Call} (h : CallR w cs d) (hx : Ext w w') : CallR w' cs d := by
 obtain ⟨av, h1, h2, h3⟩ := h; exact ⟨av, h1, h2, h3.ext hx⟩
abbrev Cls (w : World) (v : Value) (l : List Call) : Prop := Rows w 2 CallR v l
theorem Cls.ext {w w' : World} {v : Value} {l : List Call} (h : Cls w v l) (hx : Ext w w') : Cls w' v l := Rows.ext h (fun _ _ h => h.ext hx) hx
def TabR (w : World) (cs : List Value) (d : Tab) : Prop := ∃ kv av dv, cs = [.string d.nm, kv, av, .int .i64 d.df.a, dv, .int .i64 d.sz] ∧ d.nm.size ≤ maxLen ∧ (B64 d.df.a ∧ B64 d.sz) ∧ Keys w kv d.ks ∧ Is w av d.ac ∧ Us w dv d.df.ar
theorem TabR.ext {w w' : World} {cs : List Value} {d : Tab} (h : TabR w cs d) (hx : Ext w w') : TabR w' cs d := by
 obtain ⟨kv, av, dv, h1, h2, h3, h4, h5, h6⟩ := h; exact ⟨kv, av, dv, h1, h2, h3, h4.ext hx, h5.ext hx, h6.ext hx⟩
abbrev Tabs (w : World) (v : Value) (l : List Tab) : Prop := Rows w 6 TabR v l
theorem Tabs.ext {w w' : World} {v : Value} {l : List Tab} (h : Tabs w v l) (hx : Ext w w') : Tabs w' v l := Rows.ext h (fun _ _ h => h.ext hx) hx
/-- a node and what stands below it: the lists in preorder, and how deep they go -/
structure NT where
 d : CN
 tl : List CN
 tn : Nat
 el : List CN
 en : Nat
def NT.all (x : NT) : List CN := x.d :: (x.tl ++ x.el)
def NT.nest (x : NT) : Nat := max x.tn x.en
def flat (l : List NT) : List CN := l.flatMap NT.all
def deep (l : List NT) : Nat := if l = [] then 0 else 1 + (l.map NT.nest).foldr max 0
/-- a list of control nodes, of a depth below n -/
def Ctl : Nat → World → Value → List CN → Nat → Nat → Prop
 | 0 => fun _ _ _ _ _ => False
 | n + 1 => fun w v l d m => ∃ ns : List NT, Rows w 5 (fun w cs x => ∃ cv tv ev, cs = [.int .i64 x.d.k, .int .i64 x.d.t, cv, tv, ev] ∧ (B64 x.d.k ∧ B64 x.d.t) ∧ Exp w cv x.d.c ∧ Ctl n w tv x.tl x.tn x.d.th ∧ Ctl n w ev x.el x.en x.d.el) v ns ∧ l = flat ns ∧ d = deep ns ∧ m = ns.length
def NodeR (n : Nat) (w : World) (cs : List Value) (x : NT) : Prop := ∃ cv tv ev, cs = [.int .i64 x.d.k, .int .i64 x.d.t, cv, tv, ev] ∧ (B64 x.d.k ∧ B64 x.d.t) ∧ Exp w cv x.d.c ∧ Ctl n w tv x.tl x.tn x.d.th ∧ Ctl n w ev x.el x.en x.d.el
theorem ctl_succ {n : Nat} {w : World} {v : Value} {l : List CN} {d m : Nat} : Ctl (n + 1) w v l d m ↔ ∃ ns : List NT, Rows w 5 (NodeR n) v ns ∧ l = flat ns ∧ d = deep ns ∧ m = ns.length := Iff.rfl
theorem Ctl.ext : ∀ {n : Nat} {w w' : World} {v : Value} {l : List CN} {d m : Nat}, Ctl n w v l d m → Ext w w' → Ctl n w' v l d m
 | 0, _, _, _, _, _, _, h, _ => h.elim
 | n + 1, w, w', v, l, d, m, h, hx => by
  rw [ctl_succ] at h ⊢
  obtain ⟨ns, h1, h2⟩ := h
  exact ⟨ns, h1.ext (fun cs x h => by
   obtain ⟨cv, tv, ev, g1, g2, g3, g4, g5⟩ := h
   exact ⟨cv, tv, ev, g1, g2, g3.ext hx, g4.ext hx, g5.ext hx⟩) hx, h2⟩
theorem NodeR.ext {n : Nat} {w w' : World} {cs : List Value} {x : NT} (h : NodeR n w cs x) (hx : Ext w w') : NodeR n w' cs x := by
 obtain ⟨cv, tv, ev, g1, g2, g3, g4, g5⟩ := h
 exact ⟨cv, tv, ev, g1, g2, g3.ext hx, g4.ext hx, g5.ext hx⟩
/-- a program in memory -/
def IsF (w : World) (p : Pg.PV) (F : FP) : Prop := (p.c0 = .string F.nm ∧ F.nm.size ≤ maxLen) ∧ Ps.IsQ w p F.P F.ss ∧ Rows w 3 Rg.RegR p.c3 F.rs ∧ Acts w p.c4 F.ac ∧ Tabs w p.c5 F.ts ∧ (∃ n m, Ctl n w p.c7 F.cs F.nest m) ∧ ∀ x ∈ F.P.dp, B64 x
theorem IsF.ext {w w' : World} {p : Pg.PV} {F : FP} (h : IsF w p F) (hx : Ext w w') : IsF w' p F := by
 obtain ⟨h0, h1, h2, h3, h4, ⟨n, m, h5⟩, h6⟩ := h
 exact ⟨h0, h1.ext hx, h2.ext (fun _ _ h => h) hx, h3.ext hx, h4.ext hx, ⟨n, m, h5.ext hx⟩, h6⟩
end Tj
namespace Tj
def arity (op : Int) : Int := if 1 ≤ op ∧ op ≤ 4 then 0 else if 5 ≤ op ∧ op ≤ 8 then 1 else if 9 ≤ op ∧ op ≤ 16 then 2 else if op = 17 then 3 else -1
/-- element i of a list, where i is an int -/
def at? {α : Type} (l : List α) (i : Int) : Option α := if 0 ≤ i then l[i.toNat]? else none
theorem at_some {α : Type} {l : List α} {i : Int} (h0 : 0 ≤ i) (h1 : i < l.length) : ∃ x, at? l i = some x ∧ l[i.toNat]? = some x := by
 have hl : i.toNat < l.length := by omega
 refine ⟨l[i.toNat], ?_, gE hl⟩
 unfold at?; rw [if_pos h0, gE hl]
theorem at_none {α : Type} {l : List α} {i : Int} (h : i < 0 ∨ (l.length : Int) ≤ i) : at? l i = none := by
 unfold at?
 by_cases h0 : 0 ≤ i
 ·rw [if_pos h0, List.getElem?_eq_none_iff.2 (by omega)]
 ·rw [if_neg h0]
theorem at_get {α : Type} {l : List α} {i : Int} {x : α} (h : at? l i = some x) : 0 ≤ i ∧ i < l.length ∧ l[i.toNat]? = some x := by
 unfold at? at h
 by_cases h0 : 0 ≤ i
 ·rw [if_pos h0] at h
  have := (List.getElem?_eq_some_iff.1 h).1
  exact ⟨h0, by omega, h⟩
 ·rw [if_neg h0] at h; cases h
/-- the fields of a header, or the metadata -/
def fls (P : Pg.Prog) (h : Int) : Option (List Hd.Fld) := if h = -1 then some P.md else (at? P.hs h).map (·.2)
def fld (P : Pg.Prog) (h i : Int) : Option Hd.Fld := (fls P h).bind fun l => at? l i
def wide (w : Int) : Int × Int := if w < 1 ∨ 32 < w then (0, 10) else (w, 0)
/-- the width of a node without operands -/
def prim (P : Pg.Prog) (ps : List Hd.Fld) (n : EN) : Int × Int :=
 if n.op = 1 then (if n.w < 1 ∨ 32 < n.w then (0, 10) else if n.n < 0 ∨ Bv.mask n.w < n.n then (0, 9) else (n.w, 0))
 else if n.op = 2 then (match fld P n.n n.w with | some f => wide f.2 | none => (0, 8))
 else if n.op = 3 then (match at? ps n.n with | some f => wide f.2 | none => (0, 8))
 else if n.n < 0 ∨ (P.hs.length : Int) ≤ n.n then (0, 8) else (1, 0)
def comb (n : EN) (a b c : Int) : Int × Int :=
 if n.op = 8 then (if n.n < 0 then (0, 9) else if n.w < 1 ∨ 32 < n.w then (0, 10) else if a - n.w < n.n then (0, 10) else (n.w, 0))
 else if n.op = 14 then wide (a + b)
 else if n.op = 17 then (if a ≠ 1 ∨ b ≠ c then (0, 10) else (b, 0))
 else if (n.op = 6 ∨ n.op = 7) ∧ (n.n < 0 ∨ 31 < n.n) then (0, 9)
 else if arity n.op = 2 ∧ a ≠ b then (0, 10)
 else if n.op = 15 ∨ n.op = 16 then (1, 0) else (a, 0)
/-- the subexpressions from one place on: their widths, the place behind them, the first error -/
def subs (f : Nat → Int × Nat × Int) : Nat → Nat → List Int × Nat × Int
 | 0, p => ([], p, 0)
 | k + 1, p => if (subs f k p).2.2 ≠ 0 then subs f k p else
  if (f (subs f k p).2.1).2.2 ≠ 0 then ([], 0, (f (subs f k p).2.1).2.2) else ((subs f k p).1 ++ [(f (subs f k p).2.1).1], (f (subs f k p).2.1).2.1, 0)
/-- the subexpression at a place: its width, the place behind it, its error -/
def sub (P : Pg.Prog) (ps : List Hd.Fld) (l : List EN) : Nat → Nat → Int × Nat × Int
 | 0, _ => (0, 0, 3)
 | m + 1, p => match l[p]? with
  | none => (0, 0, 3)
  | some n => if arity n.op < 0 then (0, 0, 11) else if arity n.op = 0 then ((prim P ps n).1, p + 1, (prim P ps n).2)
   else if (subs (sub P ps l m) (arity n.op).toNat (p + 1)).2.2 ≠ 0 then (0, 0, (subs (sub P ps l m) (arity n.op).toNat (p + 1)).2.2)
   else ((comb n ((subs (sub P ps l m) (arity n.op).toNat (p + 1)).1.getD 0 0) ((subs (sub P ps l m) (arity n.op).toNat (p + 1)).1.getD 1 0) ((subs (sub P ps l m) (arity n.op).toNat (p + 1)).1.getD 2 0)).1,
    (subs (sub P ps l m) (arity n.op).toNat (p + 1)).2.1,
    (comb n ((subs (sub P ps l m) (arity n.op).toNat (p + 1)).1.getD 0 0) ((subs (sub P ps l m) (arity n.op).toNat (p + 1)).1.getD 1 0) ((subs (sub P ps l m) (arity n.op).toNat (p + 1)).1.getD 2 0)).2)
/-- the width of an expression, or its error -/
def xchk (P : Pg.Prog) (ps : List Hd.Fld) (l : List EN) : Int × Int :=
 if 24 < l.length then (0, 12) else if (sub P ps l (l.length + 1) 0).2.2 ≠ 0 then (0, (sub P ps l (l.length + 1) 0).2.2)
 else if (sub P ps l (l.length + 1) 0).2.1 < l.length then (0, 4) else ((sub P ps l (l.length + 1) 0).1, 0)
/-- a node at an operand count: the three ways -/
theorem arity_cases (op : Int) : arity op = -1 ∨ arity op = 0 ∨ arity op = 1 ∨ arity op = 2 ∨ arity op = 3 := by
 unfold arity; repeat (first | split | omega)
theorem subs_len {f : Nat → Int × Nat × Int} {k p : Nat} (h : (subs f k p).2.2 = 0) : (subs f k p).1.length = k := by
 induction k with
 | zero => rfl
 | succ k ih =>
  unfold subs at h ⊢
  by_cases h1 : (subs f k p).2.2 ≠ 0
  ·rw [if_pos h1] at h; exact absurd h h1
  ·rw [if_neg h1] at h ⊢
   by_cases h2 : (f (subs f k p).2.1).2.2 ≠ 0
   ·rw [if_pos h2] at h; exact absurd h h2
   ·rw [if_neg h2]; simp [ih (by simpa using h1)]
theorem subs_ge {f : Nat → Int × Nat × Int} (hf : ∀ p, (f p).2.2 = 0 → p < (f p).2.1) {k p : Nat} (h : (subs f k p).2.2 = 0) : p + k ≤ (subs f k p).2.1 := by
 induction k with
 | zero => exact Nat.le_refl _
 | succ k ih =>
  unfold subs at h ⊢
  by_cases h1 : (subs f k p).2.2 ≠ 0
  ·rw [if_pos h1] at h; exact absurd h h1
  ·rw [if_neg h1] at h ⊢
   by_cases h2 : (f (subs f k p).2.1).2.2 ≠ 0
   ·rw [if_pos h2] at h; exact absurd h h2
   ·rw [if_neg h2]
    have a := ih (by simpa using h1)
    have b := hf _ (show (f (subs f k p).2.1).2.2 = 0 by simpa using h2)
    show p + (k + 1) ≤ (f (subs f k p).2.1).2.1
    omega
theorem sub_gt {P : Pg.Prog} {ps : List Hd.Fld} {l : List EN} : ∀ (m p : Nat), (sub P ps l m p).2.2 = 0 → p < (sub P ps l m p).2.1
 | 0, p, h => by simp [sub] at h
 | m + 1, p, h => by
  unfold sub at h ⊢
  cases hl : l[p]? with
  | none => rw [hl] at h; simp at h
  | some n =>
   rw [hl] at h
   dsimp only at h ⊢
   by_cases h1 : arity n.op < 0
   ·rw [if_pos h1] at h; simp at h
   ·rw [if_neg h1] at h ⊢
    by_cases h2 : arity n.op = 0
    ·rw [if_pos h2]; exact Nat.lt_succ_self _
    ·rw [if_neg h2] at h ⊢
     by_cases h3 : (subs (sub P ps l m) (arity n.op).toNat (p + 1)).2.2 ≠ 0
     ·rw [if_pos h3] at h; exact absurd h h3
     ·rw [if_neg h3]
      have := subs_ge (sub_gt (P := P) (ps := ps) (l := l) m) (show (subs (sub P ps l m) (arity n.op).toNat (p + 1)).2.2 = 0 by simpa using h3)
      show p < (subs (sub P ps l m) (arity n.op).toNat (p + 1)).2.1
      omega
end Tj
namespace Tj
/-- the first error of a list -/
def firstE {α : Type} (f : α → Int) : List α → Int
 | [] => 0
 | x :: xs => if f x ≠ 0 then f x else firstE f xs
theorem firstE_append {α : Type} {f : α → Int} : ∀ {l m : List α}, (∀ x ∈ l, f x = 0) → firstE f (l ++ m) = firstE f m
 | [], _, _ => rfl
 | x :: l, m, h => by
  show (if f x ≠ 0 then f x else firstE f (l ++ m)) = _
  rw [if_neg (by simp [h x (by simp)])]
  exact firstE_append (fun y hy => h y (by simp [hy]))
theorem firstE_zero {α : Type} {f : α → Int} {l : List α} (h : ∀ (j : Nat) (x : α), l[j]? = some x → f x = 0) : firstE f l = 0 := by
 have := firstE_append (f := f) (l := l) (m := []) (fun x hx => by
  obtain ⟨j, hj, rfl⟩ := List.mem_iff_getElem.1 hx
  exact h j _ (gE hj))
 rw [List.append_nil] at this
 rw [this]; rfl
theorem firstE_at {α : Type} {f : α → Int} {l : List α} {k : Nat} {x : α} (hk : l[k]? = some x) (h : ∀ j y, j < k → l[j]? = some y → f y = 0) (hx : f x ≠ 0) : firstE f l = f x := by
 obtain ⟨hlt, e⟩ := List.getElem?_eq_some_iff.1 hk
 have h1 : l = l.take k ++ (x :: l.drop (k + 1)) := by
  rw [← e, List.getElem_cons_drop, List.take_append_drop]
 rw [h1, firstE_append (fun y hy => by
  obtain ⟨j, hj, rfl⟩ := List.mem_iff_getElem.1 hy
  have hj2 : j < k := by rw [List.length_take] at hj; omega
  refine h j _ hj2 ?_
  rw [List.getElem_take, gE (by omega)])]
 show (if f x ≠ 0 then f x else _) = _
 rw [if_pos hx]
theorem firstE_ok {α : Type} {f : α → Int} : ∀ {l : List α}, firstE f l = 0 → ∀ x ∈ l, f x = 0
 | [], _, _, h => by cases h
 | y :: l, h, x, hx => by
  unfold firstE at h
  by_cases h0 : f y ≠ 0
  ·rw [if_pos h0] at h; exact absurd h h0
  ·rw [if_neg h0] at h
   rcases List.mem_cons.1 hx with rfl | hx
   ·simpa using h0
   ·exact firstE_ok h x hx
/-- an expression that must have width w -/
def valE (P : Pg.Prog) (ps : List Hd.Fld) (l : List EN) (w : Int) : Int := if (xchk P ps l).2 = 0 ∧ (xchk P ps l).1 ≠ w then 10 else (xchk P ps l).2
def stmE (F : FP) (ps : List Hd.Fld) (s : Stm) : Int :=
 if s.k = 1 then (match fld F.P s.dh s.df with | some f => valE F.P ps s.va f.2 | none => 8)
 else if s.k = 2 ∨ s.k = 3 then (if s.hd < 0 ∨ (F.P.hs.length : Int) ≤ s.hd then 8 else 0)
 else if s.k = 4 then (match at? F.rs s.rg, fld F.P s.dh s.df with
  | some r, some f => if (xchk F.P ps s.ix).2 ≠ 0 then (xchk F.P ps s.ix).2 else if f.2 ≠ r.w then 10 else 0
  | _, _ => 8)
 else if s.k = 5 then (match at? F.rs s.rg with
  | some r => if (xchk F.P ps s.ix).2 ≠ 0 then (xchk F.P ps s.ix).2 else valE F.P ps s.va r.w
  | none => 8)
 else 11
def declE (a : Act) : Int := if Id.ok a.nm then (if 4 < a.ps.length ∨ 12 < a.bd.length then 12 else Hd.fE [] a.ps) else 6
def actE (F : FP) (a : Act) : Int := if declE a ≠ 0 then declE a else firstE (stmE F a.ps) a.bd
/-- the arguments of a call, one by one -/
def argsE (ps : List Hd.Fld) (ar : List Int) : Int := if (List.range ar.length).all (fun i => Bv.fits (ar.getD i 0) (ps.getD i (⟨#[]⟩, 0)).2) then 0 else 9
def callE (F : FP) (c : Call) : Int := match at? F.ac c.a with
 | some a => if c.ar.length ≠ a.ps.length then 2 else argsE a.ps c.ar
 | none => 8
def kwid (F : FP) (k : Key) : Int := Pg.wid F.P k.h k.f
def keyE (F : FP) (k : Key) : Int := if kwid F k = 0 then 8 else if k.k = 1 ∨ k.k = 2 ∨ k.k = 3 then 0 else 11
def lpms (ks : List Key) : Nat := (ks.filter fun k => k.k == 2).length
def kbits (F : FP) (ks : List Key) : Int := (ks.map (kwid F)).sum
def keysE (F : FP) (t : Tab) : Int := if firstE (keyE F) t.ks ≠ 0 then firstE (keyE F) t.ks else if 1 < lpms t.ks then 7 else if 64 < kbits F t.ks then 10 else 0
/-- action k of a table: none (8), or there before (7) -/
def tactE (F : FP) (ac : List Int) (k : Nat) : Int := if ac.getD k 0 < 0 ∨ (F.ac.length : Int) ≤ ac.getD k 0 then 8 else if (ac.take k).any (· == ac.getD k 0) then 7 else 0
def tactsE (F : FP) (t : Tab) : Int := if firstE (tactE F t.ac) (List.range t.ac.length) ≠ 0 then firstE (tactE F t.ac) (List.range t.ac.length) else if t.ac.any (· == t.df.a) then callE F t.df else 8
def tabE (F : FP) (t : Tab) : Int :=
 if Id.ok t.nm then (if 6 < t.ks.length ∨ 16 < t.ac.length then 12 else if t.sz < 1 ∨ 256 < t.sz then 9 else if keysE F t ≠ 0 then keysE F t else tactsE F t) else 6
/-- the tables that a list of nodes applies -/
def apl (x : CN) : Bool := x.k == 1 || x.k == 3
def usedBy (l : List CN) : List Int := (l.filter apl).map (·.t)
def nodeE (F : FP) (used : List Int) (x : CN) : Int :=
 if x.k = 1 ∨ x.k = 3 then (if x.t < 0 ∨ (F.ts.length : Int) ≤ x.t then 8 else if used.any (· == x.t) then 7 else if x.k = 1 ∧ 0 < x.th + x.el then 5 else 0)
 else if x.k = 2 then (if (xchk F.P [] x.c).2 ≠ 0 then (xchk F.P [] x.c).2 else if (xchk F.P [] x.c).1 ≠ 1 then 10 else 0)
 else 11
/-- the first error of a list of nodes, in preorder; 'pre' stands ahead -/
def scanE (F : FP) : List CN → List CN → Int
 | _, [] => 0
 | pre, x :: l => if nodeE F (usedBy pre) x ≠ 0 then nodeE F (usedBy pre) x else scanE F (pre ++ [x]) l
def ctlE (F : FP) : Int := if 24 < F.cs.length then 12 else if 6 < F.nest then 14 else scanE F [] F.cs
theorem scanE_cons (F : FP) (pre : List CN) (x : CN) (l : List CN) : scanE F pre (x :: l) = if nodeE F (usedBy pre) x ≠ 0 then nodeE F (usedBy pre) x else scanE F (pre ++ [x]) l := rfl
/-- what stands ahead has the name -/
def rep (ns : List ByteArray) (i : Nat) : Bool := (ns.take i).any fun y => Hd.same y (ns.getD i ⟨#[]⟩)
/-- a list of named things: the first error, of the thing or of its name -/
def namedE {α : Type} (nm : α → ByteArray) (f : α → Int) (l : List α) : Int :=
 firstE (fun i => match l[i]? with | some x => if f x ≠ 0 then f x else if rep (l.map nm) i then 7 else 0 | none => 0) (List.range l.length)
def metaN : ByteArray := ⟨#[109, 101, 116, 97]⟩
def limE (F : FP) : Int := if Id.ok F.nm then (if 8 < F.P.hs.length then 12 else if 4 < F.rs.length then 12 else if 16 < F.ac.length then 12 else if 12 < F.ts.length then 12 else 0) else 6
def hdE (h : Hd.Hdr) : Int := if Hd.chk h ≠ 0 then Hd.chk h else if Hd.same h.1 metaN then 6 else 0
def mfE (f : Hd.Fld) : Int := if Id.ok f.1 then (if f.2 < 1 ∨ 32 < f.2 then 10 else 0) else 6
def std : List Hd.Fld := [(⟨#[105, 110]⟩, 8), (⟨#[111, 117, 116]⟩, 8), (⟨#[100, 114, 111, 112]⟩, 1)]
def stdE (md : List Hd.Fld) (i : Nat) : Int := match md[i]?, std[i]? with | some f, some g => if Hd.same f.1 g.1 && f.2 == g.2 then 0 else 5 | _, _ => 5
def metE (md : List Hd.Fld) : Int := if 12 < md.length then 12 else if namedE (·.1) mfE md ≠ 0 then namedE (·.1) mfE md else firstE (stdE md) [0, 1, 2]
def orE (a b : Int) : Int := if a ≠ 0 then a else b
/-- the first error of a program -/
def chkF (F : FP) : Int := orE (limE F) (orE (namedE (·.1) hdE F.P.hs) (orE (metE F.P.md) (orE (namedE (·.nm) Rg.chk F.rs) (orE (namedE (·.nm) (actE F) F.ac) (orE (namedE (·.nm) (tabE F) F.ts)
 (orE (Ps.chk F.P F.ss).2.2 (orE (ctlE F) (Dp.chk F.P).2)))))))
end Tj
namespace Tj
/-- the nine values of a program -/
structure Form (w : World) (p : Pg.PV) (F : FP) (a1 a2 a3 a4 a5 a6 a7 a8 : Option Addr) (m1 m2 m3 m4 m5 m6 n7 m7 m8 : Nat) : Prop where
 e : p = ⟨.string F.nm, .slice a1 F.P.hs.length m1, .slice a2 F.P.md.length m2, .slice a3 F.rs.length m3, .slice a4 F.ac.length m4, .slice a5 F.ts.length m5, .slice a6 F.ss.length m6, .slice a7 n7 m7, .slice a8 F.P.dp.length m8⟩
 nm : F.nm.size ≤ maxLen
 hs : Rows w 2 Hd.HdrR (.slice a1 F.P.hs.length m1) F.P.hs
 md : Hd.Flds w (.slice a2 F.P.md.length m2) F.P.md
 rs : Rows w 3 Rg.RegR (.slice a3 F.rs.length m3) F.rs
 ac : Acts w (.slice a4 F.ac.length m4) F.ac
 ts : Tabs w (.slice a5 F.ts.length m5) F.ts
 ss : Rows w 7 Ps.StR (.slice a6 F.ss.length m6) F.ss
 ct : ∃ n, Ctl n w (.slice a7 n7 m7) F.cs F.nest n7
 dp : Is w (.slice a8 F.P.dp.length m8) F.P.dp
 l1 : F.P.hs.length ≤ m1 ∧ m1 ≤ 9223372036854775807
 l2 : F.P.md.length ≤ m2 ∧ m2 ≤ 9223372036854775807
 l3 : F.rs.length ≤ m3 ∧ m3 ≤ 9223372036854775807
 l4 : F.ac.length ≤ m4 ∧ m4 ≤ 9223372036854775807
 l5 : F.ts.length ≤ m5 ∧ m5 ≤ 9223372036854775807
 l6 : F.ss.length ≤ m6 ∧ m6 ≤ 9223372036854775807
 l7 : n7 ≤ m7 ∧ m7 ≤ 9223372036854775807
 l8 : F.P.dp.length ≤ 9223372036854775807
theorem Ctl.slice : ∀ {n : Nat} {w : World} {v : Value} {l : List CN} {d m : Nat}, Ctl n w v l d m → ∃ oa c, v = .slice oa m c ∧ m ≤ c ∧ c ≤ maxLen
 | 0, _, _, _, _, _, h => h.elim
 | n + 1, w, v, l, d, m, h => by
  rw [ctl_succ] at h
  obtain ⟨ns, h1, _, _, rfl⟩ := h
  exact h1.slice
theorem IsF.form {w : World} {p : Pg.PV} {F : FP} (h : IsF w p F) : ∃ a1 a2 a3 a4 a5 a6 a7 a8 m1 m2 m3 m4 m5 m6 n7 m7 m8, Form w p F a1 a2 a3 a4 a5 a6 a7 a8 m1 m2 m3 m4 m5 m6 n7 m7 m8 := by
 obtain ⟨c0, c1, c2, c3, c4, c5, c6, c7, c8⟩ := p
 obtain ⟨⟨h0, h0n⟩, ⟨⟨_, h1, h2, _, _, _, _, _, h8⟩, h6⟩, h3, h4, h5, ⟨n, m, h7⟩, h9⟩ := h
 dsimp only at h0 h1 h2 h3 h4 h5 h6 h7 h8
 subst h0
 obtain ⟨a1, m1, rfl, l1, l1'⟩ := h1.slice
 obtain ⟨a2, m2, rfl, l2, l2'⟩ := h2.slice
 obtain ⟨a3, m3, rfl, l3, l3'⟩ := h3.slice
 obtain ⟨a4, m4, rfl, l4, l4'⟩ := h4.slice
 obtain ⟨a5, m5, rfl, l5, l5'⟩ := h5.slice
 obtain ⟨a6, m6, rfl, l6, l6'⟩ := h6.slice
 obtain ⟨a7, m7, rfl, l7, l7'⟩ := h7.slice
 obtain ⟨a8, m8, rfl, _⟩ := h8.1.slice
 have := h8.2
 unfold maxLen at l1' l2' l3' l4' l5' l6' l7' this
 exact ⟨a1, a2, a3, a4, a5, a6, a7, a8, m1, m2, m3, m4, m5, m6, m, m7, m8, ⟨rfl, h0n, h1, h2, h3, h4, h5, h6, ⟨n, h7⟩, ⟨h8, h9⟩, ⟨l1, by omega⟩, ⟨l2, by omega⟩, ⟨l3, by omega⟩, ⟨l4, by omega⟩, ⟨l5, by omega⟩, ⟨l6, by omega⟩, ⟨l7, by omega⟩, by omega⟩⟩
/-- a scope: a program and parameters -/
abbrev scv (p : Pg.PV) (pv : Value) : Value := .agg #[p.c0, p.c1, p.c2, p.c3, p.c4, p.c5, p.c6, p.c7, p.c8, pv]
def fldV : Option Hd.Fld → Value
 | some f => .agg #[.string f.1, .int .i64 f.2]
 | none => .agg #[.string ⟨#[]⟩, .int .i64 0]
theorem ens_at {w : World} {b o n c : Nat} {l : List EN} {oa : Option Addr} (h : Exp w (.slice oa n c) l) (k : Nat) (x : EN) (hk : l[k]? = some x) (hoa : oa = some ⟨b, o, none⟩) :
 w.cell? ⟨b, o + k * 3, none⟩ = some (.int .i64 x.op) ∧ w.cell? ⟨b, o + k * 3 + 1, none⟩ = some (.int .i64 x.n) ∧ w.cell? ⟨b, o + k * 3 + 2, none⟩ = some (.int .i64 x.w) ∧ B64 x.op ∧ B64 x.n ∧ B64 x.w := by
 obtain ⟨b', o', e, _, h4⟩ := h.at (by have := (List.getElem?_eq_some_iff.1 hk).1; omega)
 rw [hoa] at e
 simp only [Option.some.injEq, Addr.mk.injEq, and_true] at e
 obtain ⟨rfl, rfl⟩ := e
 obtain ⟨cs, _, ⟨rfl, h1, h2, h3⟩, hc⟩ := h4 k x hk
 exact ⟨hc 0 _ rfl, hc 1 _ rfl, hc 2 _ rfl, h1, h2, h3⟩
end Tj
theorem arity_any (op : Int) (W : World) : Calls Tryz.prog 187 #[.int .i64 op] W fun e W' => e = .returned (.int .i64 (Tj.arity op)) ∧ W = W' := by
 by_cases h0 : 1 ≤ op ∧ op ≤ 17
 ·obtain ⟨h1, h2⟩ := h0
  have h3 : op = 1 ∨ op = 2 ∨ op = 3 ∨ op = 4 ∨ op = 5 ∨ op = 6 ∨ op = 7 ∨ op = 8 ∨ op = 9 ∨ op = 10 ∨ op = 11 ∨ op = 12 ∨ op = 13 ∨ op = 14 ∨ op = 15 ∨ op = 16 ∨ op = 17 := by omega
  clear h1 h2
  rcases h3 with rfl | rfl | rfl | rfl | rfl | rfl | rfl | rfl | rfl | rfl | rfl | rfl | rfl | rfl | rfl | rfl | rfl
  all_goals
   go_enter Tryz.func187, Tryz.ntmps187
   go_wp2
   go_ret
   exact ⟨rfl, rfl⟩
 ·have e : Tj.arity op = -1 := by unfold Tj.arity; repeat (first | rw [if_neg (by omega)])
  rw [e]
  have f1 : (op == 1) = false := bF (by omega)
  have f2 : (op == 2) = false := bF (by omega)
  have f3 : (op == 3) = false := bF (by omega)
  have f4 : (op == 4) = false := bF (by omega)
  have f5 : (op == 5) = false := bF (by omega)
  have f6 : (op == 6) = false := bF (by omega)
  have f7 : (op == 7) = false := bF (by omega)
  have f8 : (op == 8) = false := bF (by omega)
  have f9 : (op == 9) = false := bF (by omega)
  have f10 : (op == 10) = false := bF (by omega)
  have f11 : (op == 11) = false := bF (by omega)
  have f12 : (op == 12) = false := bF (by omega)
  have f13 : (op == 13) = false := bF (by omega)
  have f14 : (op == 14) = false := bF (by omega)
  have f15 : (op == 15) = false := bF (by omega)
  have f16 : (op == 16) = false := bF (by omega)
  have f17 : (op == 17) = false := bF (by omega)
  clear h0 e
  go_enter Tryz.func187, Tryz.ntmps187
  go_wp2_with fail
  go_ret
  exact ⟨rfl, rfl⟩
theorem wide_any (x : Int) (W : World) : Calls Tryz.prog 192 #[.int .i64 x] W fun e W' => e = .returned (.tuple #[.int .i64 (Tj.wide x).1, .int .i64 (Tj.wide x).2]) ∧ W = W' := by
 by_cases h1 : x < 1
 ·have e : Tj.wide x = (0, 10) := by unfold Tj.wide; rw [if_pos (.inl h1)]
  rw [e]
  have d1 : decide (x < 1) = true := dTt (by omega)
  clear e
  go_enter Tryz.func192, Tryz.ntmps192
  go_wp2_with fail
  go_ret2
  exact ⟨rfl, rfl⟩
 ·by_cases h2 : 32 < x
  ·have e : Tj.wide x = (0, 10) := by unfold Tj.wide; rw [if_pos (.inr h2)]
   rw [e]
   have d1 : decide (x < 1) = false := dF (by omega)
   have d2 : decide (32 < x) = true := dTt (by omega)
   clear e
   go_enter Tryz.func192, Tryz.ntmps192
   go_wp2_with fail
   go_ret2
   exact ⟨rfl, rfl⟩
  ·have e : Tj.wide x = (x, 0) := by unfold Tj.wide; rw [if_neg (by omega)]
   rw [e]
   have d1 : decide (x < 1) = false := dF (by omega)
   have d2 : decide (32 < x) = false := dF (by omega)
   clear e
   go_enter Tryz.func192, Tryz.ntmps192
   go_wp2_with fail
   go_ret2
   exact ⟨rfl, rfl⟩
abbrev Yq4 (F : Tj.FP) (a1 : Option Addr) (m1 : Nat) (a2 : Option Addr) (m2 : Nat) (a3 : Option Addr) (m3 : Nat) (a4 : Option Addr) (m4 : Nat) (a5 : Option Addr) (m5 : Nat) (a6 : Option Addr) (m6 : Nat) (a7 : Option Addr) (m7 : Nat) (n7 : Nat) (a8 : Option Addr) (m8 : Nat) (pa : Option Addr) (pc : Nat) (ps_length : Nat) : Array Value := #[.string F.nm, .slice a1 F.P.hs.length m1, .slice a2 F.P.md.length m2, .slice a3 F.rs.length m3, .slice a4 F.ac.length m4, .slice a5 F.ts.length m5, .slice a6 F.ss.length m6, .slice a7 n7 m7, .slice a8 F.P.dp.length m8, .slice pa ps_length pc]
theorem sfield_any {W : World} {p : Pg.PV} {F : Tj.FP} (hF : Tj.IsF W p F) {pv : Value} {ps : List Hd.Fld} (hps : Hd.Flds W pv ps) (h i : Int) : Calls Tryz.prog 193 #[Tj.scv p pv, .int .i64 h, .int .i64 i] W (Rets W (.tuple #[Tj.fldV (Tj.fld F.P h i), .bool (Tj.fld F.P h i).isSome])) := by
 obtain ⟨a1, a2, a3, a4, a5, a6, a7, a8, m1, m2, m3, m4, m5, m6, n7, m7, m8, hf⟩ := hF.form
 obtain ⟨rfl, hnm, hhs, hmd, hrs, has, hts, hss, hct, hdp, l1, l2, l3, l4, l5, l6, l7, l8⟩ := hf
 obtain ⟨pa, pc, rfl, lp, lp'⟩ := hps.slice
 unfold maxLen at lp'
 obtain ⟨R, hR⟩ : ∃ z, z = Tj.fld F.P h i := ⟨_, rfl⟩
 rw [← hR]
 dsimp only [Tj.scv]
 have bx := aH W (.cells (Yq4 F a1 m1 a2 m2 a3 m3 a4 m4 a5 m5 a6 m6 a7 m7 n7 a8 m8 pa pc ps.length) 222)
 have k0 := alw (cQ 0 bx)
 have k1 := alw (cQ 1 bx)
 have k2 := alw (cQ 2 bx)
 have k3 := alw (cQ 3 bx)
 have k4 := alw (cQ 4 bx)
 have k5 := alw (cQ 5 bx)
 have k6 := alw (cQ 6 bx)
 have k7 := alw (cQ 7 bx)
 have k8 := alw (cQ 8 bx)
 have k9 := alw (cQ 9 bx)
 clear bx
 clear hps
 unfold Tj.fld at hR
 by_cases hh : h = -1
 ·subst hh
  have hfl : Tj.fls F.P (-1) = some F.P.md := by unfold Tj.fls; rw [if_pos rfl]
  by_cases hi0 : i < 0
  ·have HE : Hid (R = none) := Lh (by rw [hR, hfl]; exact Tj.at_none (.inl hi0))
   have d1 : decide (i < 0) = true := dTt (by omega)
   clear hR hfl
   clear hF hnm hhs hmd hrs has hts hss hct hdp
   go_enter Tryz.func193, Tryz.ntmps193
   go_wp2_with fail
   exact bodyPost_ret (v := .tuple #[.agg #[.string ⟨#[]⟩, .int .i64 0], .bool false]) (by simp [results, Tryz.results193, go_sem]) rfl ⟨by rw [HE.out]; rfl, grows⟩
  ·by_cases hi1 : (F.P.md.length : Int) ≤ i
   ·have HE : Hid (R = none) := Lh (by rw [hR, hfl]; exact Tj.at_none (.inr hi1))
    have d1 : decide (i < 0) = false := dF (by omega)
    have d2 : decide ((F.P.md.length : Int) ≤ i) = true := dTt (by omega)
    clear hR hfl
    clear hF hnm hhs hmd hrs has hts hss hct hdp
    go_enter Tryz.func193, Tryz.ntmps193
    go_wp2_with fail
    exact bodyPost_ret (v := .tuple #[.agg #[.string ⟨#[]⟩, .int .i64 0], .bool false]) (by simp [results, Tryz.results193, go_sem]) rfl ⟨by rw [HE.out]; rfl, grows⟩
   ·obtain ⟨k, rfl⟩ := Int.eq_ofNat_of_zero_le (show 0 ≤ i by omega)
    have hkl : k < F.P.md.length := by omega
    obtain ⟨⟨nk, xk⟩, hxk⟩ : ∃ x, F.P.md[k]? = some x := ⟨_, gE hkl⟩
    have HE : Hid (R = some (nk, xk)) := Lh (by rw [hR, hfl]; show Tj.at? _ _ = _; unfold Tj.at?; rw [if_pos (by omega), Int.toNat_natCast]; exact hxk)
    obtain ⟨fb, fo, rfl, _, _⟩ := Rows.at hmd (by omega)
    obtain ⟨u0, u1, _⟩ := flds_at hmd k nk xk hxk rfl
    have d1 : decide ((k : Int) < 0) = false := dF (by omega)
    have d2 : decide ((F.P.md.length : Int) ≤ (k : Int)) = false := dF (by omega)
    clear hR hfl hxk
    clear hF hnm hhs hmd hrs has hts hss hct hdp
    go_enter Tryz.func193, Tryz.ntmps193
    go_wp2_with fail
    exact bodyPost_ret (v := .tuple #[.agg #[.string nk, .int .i64 xk], .bool true]) (by simp [results, Tryz.results193, go_sem]) rfl ⟨by rw [HE.out]; rfl, grows⟩
 ·have e1 : (h != -1) = true := nT hh
  by_cases h0 : h < 0
  ·have HE : Hid (R = none) := Lh (by rw [hR]; unfold Tj.fls; rw [if_neg hh, Tj.at_none (.inl h0)]; rfl)
   have d0 : decide (h < 0) = true := dTt (by omega)
   clear hR
   clear hF hnm hhs hmd hrs has hts hss hct hdp
   go_enter Tryz.func193, Tryz.ntmps193
   go_wp2_with fail
   exact bodyPost_ret (v := .tuple #[.agg #[.string ⟨#[]⟩, .int .i64 0], .bool false]) (by simp [results, Tryz.results193, go_sem]) rfl ⟨by rw [HE.out]; rfl, grows⟩
  ·by_cases h1 : (F.P.hs.length : Int) ≤ h
   ·have HE : Hid (R = none) := Lh (by rw [hR]; unfold Tj.fls; rw [if_neg hh, Tj.at_none (.inr h1)]; rfl)
    have d0 : decide (h < 0) = false := dF (by omega)
    have d3 : decide ((F.P.hs.length : Int) ≤ h) = true := dTt (by omega)
    clear hR
    clear hF hnm hhs hmd hrs has hts hss hct hdp
    go_enter Tryz.func193, Tryz.ntmps193
    go_wp2_with fail
    exact bodyPost_ret (v := .tuple #[.agg #[.string ⟨#[]⟩, .int .i64 0], .bool false]) (by simp [results, Tryz.results193, go_sem]) rfl ⟨by rw [HE.out]; rfl, grows⟩
   ·obtain ⟨q, rfl⟩ := Int.eq_ofNat_of_zero_le (show 0 ≤ h by omega)
    have hql : q < F.P.hs.length := by omega
    obtain ⟨⟨hn, fs⟩, hxq⟩ : ∃ x, F.P.hs[q]? = some x := ⟨_, gE hql⟩
    have hfl : Tj.fls F.P q = some fs := by unfold Tj.fls; rw [if_neg (by omega)]; unfold Tj.at?; rw [if_pos (by omega), Int.toNat_natCast, hxq]; rfl
    obtain ⟨hb, ho, rfl, _, _⟩ := Rows.at hhs (by omega)
    obtain ⟨fa, fc, v0, v1, _, hfs, lf, lf'⟩ := hdrs_at hhs q hn fs hxq rfl
    unfold maxLen at lf'
    have d0 : decide ((q : Int) < 0) = false := dF (by omega)
    have d3 : decide ((F.P.hs.length : Int) ≤ (q : Int)) = false := dF (by omega)
    clear hxq hh h0 h1
    by_cases hi0 : i < 0
    ·have HE : Hid (R = none) := Lh (by rw [hR, hfl]; exact Tj.at_none (.inl hi0))
     have d1 : decide (i < 0) = true := dTt (by omega)
     clear hR hfl
     clear hF hnm hhs hmd hrs has hts hss hct hdp
     clear hfs
     go_enter Tryz.func193, Tryz.ntmps193
     go_wp2_with fail
     exact bodyPost_ret (v := .tuple #[.agg #[.string ⟨#[]⟩, .int .i64 0], .bool false]) (by simp [results, Tryz.results193, go_sem]) rfl ⟨by rw [HE.out]; rfl, grows⟩
    ·by_cases hi1 : (fs.length : Int) ≤ i
     ·have HE : Hid (R = none) := Lh (by rw [hR, hfl]; exact Tj.at_none (.inr hi1))
      have d1 : decide (i < 0) = false := dF (by omega)
      have d2 : decide ((fs.length : Int) ≤ i) = true := dTt (by omega)
      clear hR hfl
      clear hF hnm hhs hmd hrs has hts hss hct hdp
      clear hfs
      go_enter Tryz.func193, Tryz.ntmps193
      go_wp2_with fail
      exact bodyPost_ret (v := .tuple #[.agg #[.string ⟨#[]⟩, .int .i64 0], .bool false]) (by simp [results, Tryz.results193, go_sem]) rfl ⟨by rw [HE.out]; rfl, grows⟩
     ·obtain ⟨k, rfl⟩ := Int.eq_ofNat_of_zero_le (show 0 ≤ i by omega)
      have hkl : k < fs.length := by omega
      obtain ⟨⟨nk, xk⟩, hxk⟩ : ∃ x, fs[k]? = some x := ⟨_, gE hkl⟩
      have HE : Hid (R = some (nk, xk)) := Lh (by rw [hR, hfl]; show Tj.at? _ _ = _; unfold Tj.at?; rw [if_pos (by omega), Int.toNat_natCast]; exact hxk)
      obtain ⟨fb, fo, rfl, _, _⟩ := Rows.at hfs (by omega)
      obtain ⟨u0, u1, _⟩ := flds_at hfs k nk xk hxk rfl
      have d1 : decide ((k : Int) < 0) = false := dF (by omega)
      have d2 : decide ((fs.length : Int) ≤ (k : Int)) = false := dF (by omega)
      clear hR hfl hxk
      clear hF hnm hhs hmd hrs has hts hss hct hdp
      clear hfs
      go_enter Tryz.func193, Tryz.ntmps193
      go_wp2_with fail
      exact bodyPost_ret (v := .tuple #[.agg #[.string nk, .int .i64 xk], .bool true]) (by simp [results, Tryz.results193, go_sem]) rfl ⟨by rw [HE.out]; rfl, grows⟩
theorem prim_any {W : World} {p : Pg.PV} {F : Tj.FP} (hF : Tj.IsF W p F) {pv : Value} {ps : List Hd.Fld} (hps : Hd.Flds W pv ps) (n : Tj.EN) : Calls Tryz.prog 188 #[Tj.scv p pv, .agg #[.int .i64 n.op, .int .i64 n.n, .int .i64 n.w]] W (Rets W (.tuple #[.int .i64 (Tj.prim F.P ps n).1, .int .i64 (Tj.prim F.P ps n).2])) := by
 obtain ⟨no, nn, nw⟩ := n
 dsimp only
 have HFD := Lh (fun (w : World) (hx : Ext W w) => sfield_any (hF.ext hx) (hps.ext hx) nn nw)
 obtain ⟨a1, a2, a3, a4, a5, a6, a7, a8, m1, m2, m3, m4, m5, m6, n7, m7, m8, hf⟩ := hF.form
 obtain ⟨rfl, hnm, hhs, hmd, hrs, has, hts, hss, hct, hdp, l1, l2, l3, l4, l5, l6, l7, l8⟩ := hf
 obtain ⟨pa, pc, rfl, lp, lp'⟩ := hps.slice
 unfold maxLen at lp'
 obtain ⟨R, hR⟩ : ∃ z, z = Tj.prim F.P ps ⟨no, nn, nw⟩ := ⟨_, rfl⟩
 rw [← hR]
 dsimp only [Tj.scv] at HFD ⊢
 have bx := aH W (.cells (Yq4 F a1 m1 a2 m2 a3 m3 a4 m4 a5 m5 a6 m6 a7 m7 n7 a8 m8 pa pc ps.length) 222)
 have k0 := alw (cQ 0 bx)
 have k1 := alw (cQ 1 bx)
 have k2 := alw (cQ 2 bx)
 have k3 := alw (cQ 3 bx)
 have k4 := alw (cQ 4 bx)
 have k5 := alw (cQ 5 bx)
 have k6 := alw (cQ 6 bx)
 have k7 := alw (cQ 7 bx)
 have k8 := alw (cQ 8 bx)
 have k9 := alw (cQ 9 bx)
 clear bx
 have bx := aH (W.alloc (.cells (Yq4 F a1 m1 a2 m2 a3 m3 a4 m4 a5 m5 a6 m6 a7 m7 n7 a8 m8 pa pc ps.length) 222)) (.cells #[.int .i64 no, .int .i64 nn, .int .i64 nw] 100)
 rw [szA] at bx
 have j0 := alw (cQ 0 bx)
 have j1 := alw (cQ 1 bx)
 have j2 := alw (cQ 2 bx)
 clear bx
 clear hF hnm hhs hmd hrs has hts hss hct hdp
 unfold Tj.prim at hR
 dsimp only at hR
 by_cases h1 : no = 1
 ·rw [if_pos h1] at hR
  have q1 : (no == 1) = true := bT (by omega)
  by_cases hw : nw < 1 ∨ 32 < nw
  ·have HE : Hid (R = (0, 10)) := Lh (by rw [hR, if_pos hw])
   have HW : Hid (Tj.wide nw = (0, 10)) := Lh (by unfold Tj.wide; rw [if_pos hw])
   clear hR hw h1 hps HFD
   go_enter Tryz.func188, Tryz.ntmps188
   go_wp2_with fail
   refine (wide_any nw _).mono ?_
   rintro e w2 ⟨rfl, rfl⟩
   rw [HW.out]
   go_wp2_with fail
   refine wp_region_later (W := ((W.alloc (.cells (Yq4 F a1 m1 a2 m2 a3 m3 a4 m4 a5 m5 a6 m6 a7 m7 n7 a8 m8 pa pc ps.length) 222)).alloc (.cells #[.int .i64 no, .int .i64 nn, .int .i64 nw] 100))) (by kernel_rfl) (by kernel_rfl) grows ?_
   repeat (go_big_quiet_step (fail))
   refine wpQuiet_nil ?_
   intro w3 hx3
   have s3 := Sm hx3
   go_wp2_with fail
   go_ret2
   exact ⟨ret_two (by rw [HE.out]), grows⟩
  ·have HW : Hid (Tj.wide nw = (nw, 0)) := Lh (by unfold Tj.wide; rw [if_neg hw])
   rw [if_neg hw] at hR
   have hmb : 0 ≤ Bv.mask nw ∧ Bv.mask nw < 4294967296 := Bv.mask_bd _
   by_cases hn : nn < 0
   ·have HE : Hid (R = (0, 9)) := Lh (by rw [hR, if_pos (.inl hn)])
    have d1 : decide (nn < 0) = true := dTt (by omega)
    clear hR hw h1 hps HFD
    go_enter Tryz.func188, Tryz.ntmps188
    go_wp2_with fail
    refine (wide_any nw _).mono ?_
    rintro e w2 ⟨rfl, rfl⟩
    rw [HW.out]
    go_wp2_with fail
    refine wp_region_later (W := ((W.alloc (.cells (Yq4 F a1 m1 a2 m2 a3 m3 a4 m4 a5 m5 a6 m6 a7 m7 n7 a8 m8 pa pc ps.length) 222)).alloc (.cells #[.int .i64 no, .int .i64 nn, .int .i64 nw] 100))) (by kernel_rfl) (by kernel_rfl) grows ?_
    repeat (go_big_quiet_step (fail))
    refine wpQuiet_nil ?_
    intro w3 hx3
    have s3 := Sm hx3
    go_wp2_with fail
    go_ret2
    exact ⟨ret_two (by rw [HE.out]), grows⟩
   ·have d1 : decide (nn < 0) = false := dF (by omega)
    by_cases hm : Bv.mask nw < nn
    ·have HE : Hid (R = (0, 9)) := Lh (by rw [hR, if_pos (.inr hm)])
     have d2 : decide (Bv.mask nw < nn) = true := dTt (by omega)
     clear hR hw h1 hps HFD
     go_enter Tryz.func188, Tryz.ntmps188
     go_wp2_with fail
     refine (wide_any nw _).mono ?_
     rintro e w2 ⟨rfl, rfl⟩
     rw [HW.out]
     go_wp2_with fail
     refine wp_region_later (W := ((W.alloc (.cells (Yq4 F a1 m1 a2 m2 a3 m3 a4 m4 a5 m5 a6 m6 a7 m7 n7 a8 m8 pa pc ps.length) 222)).alloc (.cells #[.int .i64 no, .int .i64 nn, .int .i64 nw] 100))) (by kernel_rfl) (by kernel_rfl) grows ?_
     repeat (go_big_quiet_step (first | (go_at_call 128; exact Rets.later_at (mask_any _ _)) | fail))
     refine wpQuiet_nil ?_
     intro w3 hx3
     have s3 := Sm hx3
     go_wp2_with fail
     go_ret2
     exact ⟨ret_two (by rw [HE.out]), grows⟩
    ·have HE : Hid (R = (nw, 0)) := Lh (by rw [hR, if_neg (by omega)])
     have d2 : decide (Bv.mask nw < nn) = false := dF (by omega)
     clear hR hw h1 hps HFD
     go_enter Tryz.func188, Tryz.ntmps188
     go_wp2_with fail
     refine (wide_any nw _).mono ?_
     rintro e w2 ⟨rfl, rfl⟩
     rw [HW.out]
     go_wp2_with fail
     refine wp_region_later (W := ((W.alloc (.cells (Yq4 F a1 m1 a2 m2 a3 m3 a4 m4 a5 m5 a6 m6 a7 m7 n7 a8 m8 pa pc ps.length) 222)).alloc (.cells #[.int .i64 no, .int .i64 nn, .int .i64 nw] 100))) (by kernel_rfl) (by kernel_rfl) grows ?_
     repeat (go_big_quiet_step (first | (go_at_call 128; exact Rets.later_at (mask_any _ _)) | fail))
     refine wpQuiet_nil ?_
     intro w3 hx3
     have s3 := Sm hx3
     go_wp2_with fail
     go_ret2
     exact ⟨ret_two (by rw [HE.out]), grows⟩
 ·rw [if_neg h1] at hR
  have q1 : (no == 1) = false := bF (by omega)
  by_cases h2 : no = 2
  ·rw [if_pos h2] at hR
   have q2 : (no == 2) = true := bT (by omega)
   obtain ⟨o, ho⟩ : ∃ z, z = Tj.fld F.P nn nw := ⟨_, rfl⟩
   rw [← ho] at hR HFD
   have hfld := field_fld
   cases o with
   | none =>
    have HE : Hid (R = (0, 8)) := Lh hR
    clear hR ho h1 h2 hps
    go_enter Tryz.func188, Tryz.ntmps188
    go_wp2_with fail
    refine via (HFD.out _ grows) fun w3 xw3 sw3 => ?_
    dsimp only [Tj.fldV, Option.isSome]
    go_wp2_with fail
    go_ret2
    exact ⟨ret_two (by rw [HE.out]), grows⟩
   | some fx =>
    obtain ⟨fn, fw⟩ := fx
    have HE : Hid (R = Tj.wide fw) := Lh hR
    clear hR ho h1 h2 hps
    go_enter Tryz.func188, Tryz.ntmps188
    go_wp2_with fail
    refine via (HFD.out _ grows) fun w3 xw3 sw3 => ?_
    dsimp only [Tj.fldV, Option.isSome]
    go_wp2_with fail
    refine (wide_any fw _).mono ?_
    rintro e w4 ⟨rfl, rfl⟩
    go_wp2_with fail
    go_ret2
    exact ⟨ret_two (by rw [HE.out]), grows⟩
  ·rw [if_neg h2] at hR
   have q2 : (no == 2) = false := bF (by omega)
   by_cases h3 : no = 3
   ·rw [if_pos h3] at hR
    have q3 : (no == 3) = true := bT (by omega)
    by_cases hi0 : nn < 0
    ·have HE : Hid (R = (0, 8)) := Lh (by rw [hR, Tj.at_none (.inl hi0)])
     have d1 : decide (nn < 0) = true := dTt (by omega)
     clear hR h1 h2 h3 hps HFD
     go_enter Tryz.func188, Tryz.ntmps188
     go_wp2_with fail
     go_ret2
     exact ⟨ret_two (by rw [HE.out]), grows⟩
    ·have d1 : decide (nn < 0) = false := dF (by omega)
     by_cases hi1 : (ps.length : Int) ≤ nn
     ·have HE : Hid (R = (0, 8)) := Lh (by rw [hR, Tj.at_none (.inr hi1)])
      have d2 : decide ((ps.length : Int) ≤ nn) = true := dTt (by omega)
      clear hR h1 h2 h3 hps HFD
      go_enter Tryz.func188, Tryz.ntmps188
      go_wp2_with fail
      go_ret2
      exact ⟨ret_two (by rw [HE.out]), grows⟩
     ·have d2 : decide ((ps.length : Int) ≤ nn) = false := dF (by omega)
      obtain ⟨⟨xn, xw⟩, e1, e2⟩ := Tj.at_some (l := ps) (i := nn) (by omega) (by omega)
      have HE : Hid (R = Tj.wide xw) := Lh (by rw [hR, e1])
      obtain ⟨fb, fo, rfl, _, _⟩ := Rows.at hps (by omega)
      obtain ⟨u0, u1, _⟩ := flds_at hps _ xn xw e2 rfl
      obtain ⟨k, rfl⟩ := Int.eq_ofNat_of_zero_le (show 0 ≤ nn by omega)
      rw [Int.toNat_natCast] at u0 u1
      clear hR h1 h2 h3 hps HFD e1 e2
      have hkl : k < ps.length := by omega
      go_enter Tryz.func188, Tryz.ntmps188
      go_wp2_with fail
      refine (wide_any xw _).mono ?_
      rintro e w4 ⟨rfl, rfl⟩
      go_wp2_with fail
      go_ret2
      exact ⟨ret_two (by rw [HE.out]), grows⟩
   ·rw [if_neg h3] at hR
    have q3 : (no == 3) = false := bF (by omega)
    by_cases hi0 : nn < 0
    ·have HE : Hid (R = (0, 8)) := Lh (by rw [hR, if_pos (.inl hi0)])
     have d1 : decide (nn < 0) = true := dTt (by omega)
     clear hR h1 h2 h3 hps HFD
     go_enter Tryz.func188, Tryz.ntmps188
     go_wp2_with fail
     go_ret2
     exact ⟨ret_two (by rw [HE.out]), grows⟩
    ·have d1 : decide (nn < 0) = false := dF (by omega)
     by_cases hi1 : (F.P.hs.length : Int) ≤ nn
     ·have HE : Hid (R = (0, 8)) := Lh (by rw [hR, if_pos (.inr hi1)])
      have d2 : decide ((F.P.hs.length : Int) ≤ nn) = true := dTt (by omega)
      clear hR h1 h2 h3 hps HFD
      go_enter Tryz.func188, Tryz.ntmps188
      go_wp2_with fail
      go_ret2
      exact ⟨ret_two (by rw [HE.out]), grows⟩
     ·have d2 : decide ((F.P.hs.length : Int) ≤ nn) = false := dF (by omega)
      have HE : Hid (R = (1, 0)) := Lh (by rw [hR, if_neg (by omega)])
      clear hR h1 h2 h3 hps HFD
      go_enter Tryz.func188, Tryz.ntmps188
      go_wp2_with fail
      go_ret2
      exact ⟨ret_two (by rw [HE.out]), grows⟩
namespace Tj
theorem comb_ok {n : EN} {a b c : Int} (ha : 1 ≤ a ∧ a ≤ 32) (hb : n.op = 17 → 1 ≤ b ∧ b ≤ 32) (h : (comb n a b c).2 = 0) : 1 ≤ (comb n a b c).1 ∧ (comb n a b c).1 ≤ 32 := by
 unfold comb at h ⊢
 by_cases h8 : n.op = 8
 ·rw [if_pos h8] at h ⊢
  by_cases g1 : n.n < 0
  ·rw [if_pos g1] at h; exact absurd h (by decide)
  ·rw [if_neg g1] at h ⊢
   by_cases g2 : n.w < 1 ∨ 32 < n.w
   ·rw [if_pos g2] at h; exact absurd h (by decide)
   ·rw [if_neg g2] at h ⊢
    by_cases g3 : a - n.w < n.n
    ·rw [if_pos g3] at h; exact absurd h (by decide)
    ·rw [if_neg g3]; dsimp only; omega
 ·rw [if_neg h8] at h ⊢
  by_cases h14 : n.op = 14
  ·rw [if_pos h14] at h ⊢
   unfold wide at h ⊢
   by_cases g2 : a + b < 1 ∨ 32 < a + b
   ·rw [if_pos g2] at h; exact absurd h (by decide)
   ·rw [if_neg g2]; dsimp only; omega
  ·rw [if_neg h14] at h ⊢
   by_cases h17 : n.op = 17
   ·rw [if_pos h17] at h ⊢
    by_cases g2 : a ≠ 1 ∨ b ≠ c
    ·rw [if_pos g2] at h; exact absurd h (by decide)
    ·rw [if_neg g2]; exact hb h17
   ·rw [if_neg h17] at h ⊢
    by_cases g1 : (n.op = 6 ∨ n.op = 7) ∧ (n.n < 0 ∨ 31 < n.n)
    ·rw [if_pos g1] at h; exact absurd h (by decide)
    ·rw [if_neg g1] at h ⊢
     by_cases g2 : arity n.op = 2 ∧ a ≠ b
     ·rw [if_pos g2] at h; exact absurd h (by decide)
     ·rw [if_neg g2]
      by_cases g3 : n.op = 15 ∨ n.op = 16
      ·rw [if_pos g3]; decide
      ·rw [if_neg g3]; exact ha
theorem prim_ok {P : Pg.Prog} {ps : List Hd.Fld} {n : EN} (h : (prim P ps n).2 = 0) : 1 ≤ (prim P ps n).1 ∧ (prim P ps n).1 ≤ 32 := by
 unfold prim wide at h ⊢
 split at h
 ·rename_i h1
  rw [if_pos h1]
  split at h
  ·cases h
  ·rename_i h2
   rw [if_neg h2]
   split at h
   ·cases h
   ·rename_i h3
    rw [if_neg h3]; dsimp only; omega
 ·rename_i h1
  rw [if_neg h1]
  split at h
  ·rename_i h2
   rw [if_pos h2]
   cases hf : fld P n.n n.w with
   | none => rw [hf] at h; cases h
   | some f =>
    rw [hf] at h
    dsimp only at h ⊢
    split at h
    ·cases h
    ·rename_i h3; rw [if_neg h3]; dsimp only; omega
  ·rename_i h2
   rw [if_neg h2]
   split at h
   ·rename_i h3
    rw [if_pos h3]
    cases hf : at? ps n.n with
    | none => rw [hf] at h; cases h
    | some f =>
     rw [hf] at h
     dsimp only at h ⊢
     split at h
     ·cases h
     ·rename_i h3; rw [if_neg h3]; dsimp only; omega
   ·rename_i h3
    rw [if_neg h3]
    split at h
    ·cases h
    ·rename_i h4; rw [if_neg h4]; dsimp only; omega
theorem subs_all {f : Nat → Int × Nat × Int} {Q : Int → Prop} (hf : ∀ p, (f p).2.2 = 0 → Q (f p).1) {k p : Nat} (h : (subs f k p).2.2 = 0) : ∀ x ∈ (subs f k p).1, Q x := by
 induction k with
 | zero => intro x hx; cases hx
 | succ k ih =>
  unfold subs at h ⊢
  by_cases h1 : (subs f k p).2.2 ≠ 0
  ·rw [if_pos h1] at h; exact absurd h h1
  ·rw [if_neg h1] at h ⊢
   by_cases h2 : (f (subs f k p).2.1).2.2 ≠ 0
   ·rw [if_pos h2] at h; exact absurd h h2
   ·rw [if_neg h2]
    intro x hx
    rcases List.mem_append.1 hx with hx | hx
    ·exact ih (by simpa using h1) x hx
    ·obtain rfl := List.mem_singleton.1 hx
     exact hf _ (by simpa using h2)
theorem sub_wd {P : Pg.Prog} {ps : List Hd.Fld} {l : List EN} : ∀ (m p : Nat), (sub P ps l m p).2.2 = 0 → 1 ≤ (sub P ps l m p).1 ∧ (sub P ps l m p).1 ≤ 32
 | 0, p, h => by simp [sub] at h
 | m + 1, p, h => by
  unfold sub at h ⊢
  cases hl : l[p]? with
  | none => rw [hl] at h; simp at h
  | some n =>
   rw [hl] at h
   dsimp only at h ⊢
   by_cases h1 : arity n.op < 0
   ·rw [if_pos h1] at h; simp at h
   ·rw [if_neg h1] at h ⊢
    by_cases h2 : arity n.op = 0
    ·rw [if_pos h2] at h ⊢; exact prim_ok h
    ·rw [if_neg h2] at h ⊢
     by_cases h3 : (subs (sub P ps l m) (arity n.op).toNat (p + 1)).2.2 ≠ 0
     ·rw [if_pos h3] at h; exact absurd h h3
     ·rw [if_neg h3] at h ⊢
      have h3' : (subs (sub P ps l m) (arity n.op).toNat (p + 1)).2.2 = 0 := by simpa using h3
      have hall := subs_all (Q := fun x => 1 ≤ x ∧ x ≤ 32) (fun q hq => sub_wd m q hq) h3'
      have hlen := subs_len h3'
      refine comb_ok ?_ (fun h17 => ?_) h
      ·have := arity_cases n.op
       have hpos : 0 < (subs (sub P ps l m) (arity n.op).toNat (p + 1)).1.length := by rw [hlen]; omega
       rw [List.getD_eq_getElem?_getD, gE hpos]
       exact hall _ (List.getElem_mem hpos)
      ·have ha : arity n.op = 3 := by rw [h17]; rfl
       have hpos : 1 < (subs (sub P ps l m) (arity n.op).toNat (p + 1)).1.length := by rw [hlen, ha]; decide
       rw [List.getD_eq_getElem?_getD, gE hpos]
       exact hall _ (List.getElem_mem hpos)
end Tj
theorem comb_any (n : Tj.EN) (a b c : Int) (ha : 0 ≤ a ∧ a ≤ 64) (hb : 0 ≤ b ∧ b ≤ 64) (W : World) : Calls Tryz.prog 189 #[.agg #[.int .i64 n.op, .int .i64 n.n, .int .i64 n.w], .agg #[.int .i64 a, .int .i64 b, .int .i64 c]] W (Rets W (.tuple #[.int .i64 (Tj.comb n a b c).1, .int .i64 (Tj.comb n a b c).2])) := by
 obtain ⟨no, nn, nw⟩ := n
 dsimp only
 obtain ⟨R, hR⟩ : ∃ z, z = Tj.comb ⟨no, nn, nw⟩ a b c := ⟨_, rfl⟩
 rw [← hR]
 have bx := aH W (.cells #[.int .i64 no, .int .i64 nn, .int .i64 nw] 100)
 have k0 := alw (cQ 0 bx)
 have k1 := alw (cQ 1 bx)
 have k2 := alw (cQ 2 bx)
 clear bx
 have bx := aH (W.alloc (.cells #[.int .i64 no, .int .i64 nn, .int .i64 nw] 100)) (.cells #[.int .i64 a, .int .i64 b, .int .i64 c] 280)
 rw [szA] at bx
 have j0 := alw (cQ 0 bx)
 have j1 := alw (cQ 1 bx)
 have j2 := alw (cQ 2 bx)
 clear bx
 unfold Tj.comb at hR
 dsimp only at hR
 by_cases h8 : no = 8
 ·subst h8
  rw [if_pos rfl] at hR
  by_cases hn : nn < 0
  ·have HE : Hid (R = (0, 9)) := Lh (by rw [hR, if_pos hn])
   have d1 : decide (nn < 0) = true := dTt (by omega)
   clear hR hn
   go_enter Tryz.func189, Tryz.ntmps189
   go_wp2_with fail
   go_ret2
   exact ⟨ret_two (by rw [HE.out]), grows⟩
  ·rw [if_neg hn] at hR
   have d1 : decide (nn < 0) = false := dF (by omega)
   by_cases hw : nw < 1 ∨ 32 < nw
   ·have HE : Hid (R = (0, 10)) := Lh (by rw [hR, if_pos hw])
    have HW : Hid (Tj.wide nw = (0, 10)) := Lh (by unfold Tj.wide; rw [if_pos hw])
    clear hR hw
    go_enter Tryz.func189, Tryz.ntmps189
    go_wp2_with fail
    refine (wide_any nw _).mono ?_
    rintro e w2 ⟨rfl, rfl⟩
    rw [HW.out]
    go_wp2_with fail
    go_ret2
    exact ⟨ret_two (by rw [HE.out]), grows⟩
   ·have HW : Hid (Tj.wide nw = (nw, 0)) := Lh (by unfold Tj.wide; rw [if_neg hw])
    rw [if_neg hw] at hR
    by_cases hl : a - nw < nn
    ·have HE : Hid (R = (0, 10)) := Lh (by rw [hR, if_pos hl])
     have d2 : decide (a - nw < nn) = true := dTt (by omega)
     clear hR
     go_enter Tryz.func189, Tryz.ntmps189
     go_wp2_with fail
     refine (wide_any nw _).mono ?_
     rintro e w2 ⟨rfl, rfl⟩
     rw [HW.out]
     go_wp2_with fail
     go_ret2
     exact ⟨ret_two (by rw [HE.out]), grows⟩
    ·have HE : Hid (R = (nw, 0)) := Lh (by rw [hR, if_neg hl])
     have d2 : decide (a - nw < nn) = false := dF (by omega)
     clear hR
     go_enter Tryz.func189, Tryz.ntmps189
     go_wp2_with fail
     refine (wide_any nw _).mono ?_
     rintro e w2 ⟨rfl, rfl⟩
     rw [HW.out]
     go_wp2_with fail
     go_ret2
     exact ⟨ret_two (by rw [HE.out]), grows⟩
 ·rw [if_neg h8] at hR
  have q8 : (no == 8) = false := bF (by omega)
  by_cases h14 : no = 14
  ·subst h14
   have HE : Hid (R = Tj.wide (a + b)) := Lh (by rw [hR, if_pos rfl])
   clear hR h8
   go_enter Tryz.func189, Tryz.ntmps189
   go_wp2_with fail
   refine (wide_any (a + b) _).mono ?_
   rintro e w2 ⟨rfl, rfl⟩
   go_wp2_with fail
   go_ret2
   exact ⟨ret_two (by rw [HE.out]), grows⟩
  ·rw [if_neg h14] at hR
   have q14 : (no == 14) = false := bF (by omega)
   by_cases h17 : no = 17
   ·subst h17
    rw [if_pos rfl] at hR
    by_cases h1 : a = 1
    ·by_cases hbc : b = c
     ·have HE : Hid (R = (b, 0)) := Lh (by rw [hR, if_neg (by omega)])
      have e1 : (a != 1) = false := by rw [h1]; rfl
      have e2 : (b != c) = false := by rw [hbc]; exact bne_self_eq_false c
      clear hR h1 hbc
      go_enter Tryz.func189, Tryz.ntmps189
      go_wp2_with fail
      go_ret2
      exact ⟨ret_two (by rw [HE.out]), grows⟩
     ·have HE : Hid (R = (0, 10)) := Lh (by rw [hR, if_pos (.inr hbc)])
      have e1 : (a != 1) = false := by rw [h1]; rfl
      have e2 : (b != c) = true := nT hbc
      clear hR h1 hbc
      go_enter Tryz.func189, Tryz.ntmps189
      go_wp2_with fail
      go_ret2
      exact ⟨ret_two (by rw [HE.out]), grows⟩
    ·have HE : Hid (R = (0, 10)) := Lh (by rw [hR, if_pos (.inl h1)])
     have e1 : (a != 1) = true := nT h1
     clear hR h1
     go_enter Tryz.func189, Tryz.ntmps189
     go_wp2_with fail
     go_ret2
     exact ⟨ret_two (by rw [HE.out]), grows⟩
   ·rw [if_neg h17] at hR
    have q17 : (no == 17) = false := bF (by omega)
    have tail : ∀ (R : Int × Int), R = (if Tj.arity no = 2 ∧ a ≠ b then ((0 : Int), (10 : Int)) else if no = 15 ∨ no = 16 then (1, 0) else (a, 0)) →
     ((Tj.arity no == 2) = true ∧ (a != b) = true ∧ R = (0, 10)) ∨ ((Tj.arity no == 2) = true ∧ (a != b) = false ∧ R = (if no = 15 ∨ no = 16 then (1, 0) else (a, 0))) ∨ ((Tj.arity no == 2) = false ∧ R = (if no = 15 ∨ no = 16 then (1, 0) else (a, 0))) := by
     intro R h
     by_cases g1 : Tj.arity no = 2
     ·by_cases g2 : a = b
      ·exact .inr (.inl ⟨bT g1, by rw [g2]; exact bne_self_eq_false b, by rw [h, if_neg (by intro h; exact h.2 g2)]⟩)
      ·exact .inl ⟨bT g1, nT g2, by rw [h, if_pos ⟨g1, g2⟩]⟩
     ·exact .inr (.inr ⟨bF g1, by rw [h, if_neg (by intro h; exact g1 h.1)]⟩)
    obtain ⟨ar, har⟩ : ∃ z, z = Tj.arity no := ⟨_, rfl⟩
    have HAR := Lh har
    by_cases h67 : no = 6 ∨ no = 7
    ·by_cases hn : nn < 0
     ·have HE : Hid (R = (0, 9)) := Lh (by rw [hR, if_pos ⟨h67, .inl hn⟩])
      have d1 : decide (nn < 0) = true := dTt (by omega)
      clear hR hn tail har HAR
      rcases h67 with rfl | rfl
      all_goals
       go_enter Tryz.func189, Tryz.ntmps189
       go_wp2_with fail
       go_ret2
       exact ⟨ret_two (by rw [HE.out]), grows⟩
     ·have d1 : decide (nn < 0) = false := dF (by omega)
      by_cases hn2 : 31 < nn
      ·have HE : Hid (R = (0, 9)) := Lh (by rw [hR, if_pos ⟨h67, .inr hn2⟩])
       have d2 : decide (31 < nn) = true := dTt (by omega)
       clear hR hn tail har HAR
       rcases h67 with rfl | rfl
       all_goals
        go_enter Tryz.func189, Tryz.ntmps189
        go_wp2_with fail
        go_ret2
        exact ⟨ret_two (by rw [HE.out]), grows⟩
      ·have d2 : decide (31 < nn) = false := dF (by omega)
       have HE : Hid (R = (a, 0)) := Lh (by rw [hR, if_neg (by omega), if_neg (by rintro ⟨h, _⟩; rcases h67 with rfl | rfl <;> cases h), if_neg (by omega)])
       clear hR hn hn2 tail har HAR
       rcases h67 with rfl | rfl
       all_goals
        go_enter Tryz.func189, Tryz.ntmps189
        go_wp2_with fail
        refine (arity_any _ _).mono ?_
        rintro e wa ⟨rfl, rfl⟩
        rw [show Tj.arity _ = 1 from rfl]
        go_wp2_with fail
        go_ret2
        exact ⟨ret_two (by rw [HE.out]), grows⟩
    ·rw [if_neg (by intro h; exact h67 h.1)] at hR
     have q6 : (no == 6) = false := bF (by omega)
     have q7 : (no == 7) = false := bF (by omega)
     clear h67
     rcases tail R hR with ⟨t1, t2, HE⟩ | ⟨t1, t2, HE⟩ | ⟨t1, HE⟩
     ·rw [← har] at t1
      have HE := Lh HE
      clear hR tail har
      go_enter Tryz.func189, Tryz.ntmps189
      go_wp2_with fail
      refine (arity_any no _).mono ?_
      rintro e wa ⟨rfl, rfl⟩
      rw [← HAR.out]
      go_wp2_with fail
      go_ret2
      exact ⟨ret_two (by rw [HE.out]), grows⟩
     ·rw [← har] at t1
      by_cases h15 : no = 15
      ·rw [if_pos (.inl h15)] at HE
       have HE := Lh HE
       have q15 : (no == 15) = true := bT (by omega)
       clear hR tail har h15
       go_enter Tryz.func189, Tryz.ntmps189
       go_wp2_with fail
       refine (arity_any no _).mono ?_
       rintro e wa ⟨rfl, rfl⟩
       rw [← HAR.out]
       go_wp2_with fail
       go_ret2
       exact ⟨ret_two (by rw [HE.out]), grows⟩
      ·have q15 : (no == 15) = false := bF (by omega)
       by_cases h16 : no = 16
       ·rw [if_pos (.inr h16)] at HE
        have HE := Lh HE
        have q16 : (no == 16) = true := bT (by omega)
        clear hR tail har h16
        go_enter Tryz.func189, Tryz.ntmps189
        go_wp2_with fail
        refine (arity_any no _).mono ?_
        rintro e wa ⟨rfl, rfl⟩
        rw [← HAR.out]
        go_wp2_with fail
        go_ret2
        exact ⟨ret_two (by rw [HE.out]), grows⟩
       ·rw [if_neg (by omega)] at HE
        have HE := Lh HE
        have q16 : (no == 16) = false := bF (by omega)
        clear hR tail har
        go_enter Tryz.func189, Tryz.ntmps189
        go_wp2_with fail
        refine (arity_any no _).mono ?_
        rintro e wa ⟨rfl, rfl⟩
        rw [← HAR.out]
        go_wp2_with fail
        go_ret2
        exact ⟨ret_two (by rw [HE.out]), grows⟩
     ·rw [← har] at t1
      by_cases h15 : no = 15
      ·rw [if_pos (.inl h15)] at HE
       have HE := Lh HE
       have q15 : (no == 15) = true := bT (by omega)
       clear hR tail har h15
       go_enter Tryz.func189, Tryz.ntmps189
       go_wp2_with fail
       refine (arity_any no _).mono ?_
       rintro e wa ⟨rfl, rfl⟩
       rw [← HAR.out]
       go_wp2_with fail
       go_ret2
       exact ⟨ret_two (by rw [HE.out]), grows⟩
      ·have q15 : (no == 15) = false := bF (by omega)
       by_cases h16 : no = 16
       ·rw [if_pos (.inr h16)] at HE
        have HE := Lh HE
        have q16 : (no == 16) = true := bT (by omega)
        clear hR tail har h16
        go_enter Tryz.func189, Tryz.ntmps189
        go_wp2_with fail
        refine (arity_any no _).mono ?_
        rintro e wa ⟨rfl, rfl⟩
        rw [← HAR.out]
        go_wp2_with fail
        go_ret2
        exact ⟨ret_two (by rw [HE.out]), grows⟩
       ·rw [if_neg (by omega)] at HE
        have HE := Lh HE
        have q16 : (no == 16) = false := bF (by omega)
        clear hR tail har
        go_enter Tryz.func189, Tryz.ntmps189
        go_wp2_with fail
        refine (arity_any no _).mono ?_
        rintro e wa ⟨rfl, rfl⟩
        rw [← HAR.out]
        go_wp2_with fail
        go_ret2
        exact ⟨ret_two (by rw [HE.out]), grows⟩
end Go.Proofs.YthmokhkkdgnbhaaGreat
