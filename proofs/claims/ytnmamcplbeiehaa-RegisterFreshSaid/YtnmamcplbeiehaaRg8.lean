/- Registers: the reference's New; duplicate, walked. No condition. -/
import Derived.Test.YtnmamcplbeiehaaRg7
import Derived.Laws.CopyOwn
namespace Go.Proofs.Ytnmamcplbeiehaa
open Go.RowKit

theorem take_at {α : Type} {l : List α} {k : Nat} {x : α} (h : l[k]? = some x) : l.take (k + 1) = l.take k ++ [x] := by
  rw [List.take_add_one, h]; rfl
theorem take_len {α : Type} {l : List α} {k : Nat} (h : k ≤ l.length) : (l.take k).length = k := by rw [List.length_take]; omega
namespace Rg
theorem new_cut (r : Reg) : newR r = List.replicate (if 1 ≤ r.s ∧ r.s ≤ 64 then r.s.toNat else 0) 0 := by
  unfold newR szB
  by_cases h : 1 ≤ r.s ∧ r.s ≤ 64
  · rw [if_pos (by simp [h]), if_pos h]
  · rw [if_neg (by simpa using h), if_neg h]; rfl
end Rg
theorem ext_grown {a w w' : World} {row : Option Nat} (h : Ext a w) (hg : w.grownBy w' row) (hr : ∀ k, row = some k → a.heap.size ≤ k) : Ext a w' :=
  ((Mod.of_ext (S := fun k => some k = row) h).trans (grown_mod hg)).ext (fun k hk => hr k hk.symm)
theorem Tab.base {B B' : Nat} {w : World} {v : Value} {vs : List Value} {ls : List (List Int)} (h : Tab B w v vs ls) (hb : B' ≤ B) : Tab B' w v vs ls :=
  ⟨h.1, own_base h.2.1 hb, fun i u l hu hl => ⟨own_base (h.2.2.1 i u l hu hl).1 hb, (h.2.2.1 i u l hu hl).2⟩, h.2.2.2⟩
theorem own_ge {w : World} {base : Nat} {e : TypeId} {size : Nat} {v : Value} {n : Nat} {xs : List Value} (h : w.ownsRow base e size v n xs) {k : Nat} (hk : v.ownBlock = some k) : base ≤ k := by
  obtain ⟨_, _, h⟩ := own_heap h hk; exact h
theorem splice_all {L cs : List Value} (h : cs.length = L.length) : splice L 0 cs = cs := by
  unfold splice; rw [List.take_zero, List.nil_append, Nat.zero_add, h, List.drop_length, List.append_nil]
theorem own_lt' {w : World} {base : Nat} {e : TypeId} {size g n c : Nat} {m : Nat} {xs : List Value} (h : w.ownsRow base e size (.slice (some ⟨g, 0, none⟩) m c) n xs) : g < w.heap.size := own_lt h rfl
theorem copy_pos {Wc W2 : World} {la : Option Addr} {lc g : Nat} {l : List Int} {cs : List Value} (HS : Hid (Src Wc (.slice la l.length lc) 1 l.length (l.map (.int .u32)))) (HC : Hid (cs = l.map (.int .u32))) (hw : W2 = Wc) :
    0 < cs.length → some (⟨g, 0, none⟩ : Addr) = some ⟨g, 0, none⟩ ∧ ∃ ad, la = some ad ∧ ∀ (j : Nat) (v : Value), cs[j]? = some v → W2.cell? (ad.add j) = some v := by
  intro h
  refine ⟨rfl, ?_⟩
  rw [HC.out, List.length_map] at h
  subst hw
  rcases HS.out.2.2 with ⟨_, h0⟩ | ⟨ad, c, e, hc⟩
  · omega
  · simp only [Value.slice.injEq] at e
    obtain ⟨rfl, _, _⟩ := e
    exact ⟨ad, rfl, fun j v hj => hc j v (by rw [← HC.out]; exact hj)⟩
/-- a new row of zeros put behind the table's rows -/
theorem Tab.pushMade {B m : Nat} {w w2 : World} {v v' : Value} {vs : List Value} {ls : List (List Int)} (h : Tab B w v vs ls) (hB : B ≤ w.heap.size) (hm : m ≤ maxLen) (hx : Ext (w.alloc (.cells (madeCells #[.int .u32 0] m) 23)) w2) {w' : World}
    (hv : w'.ownsRow B 90 1 v' (ls.length + 1) (vs ++ [.slice (some ⟨w.heap.size, 0, none⟩) m m])) (hg : w2.grownBy w' v.ownBlock) : Tab B w' v' (vs ++ [.slice (some ⟨w.heap.size, 0, none⟩) m m]) (ls ++ [List.replicate m 0]) :=
  Tab.push (w := w2) (h.ext (((Ext.refl w).alloc _).trans hx)) (own_ext (own_made hB hm) hx) zero_u32 (fun j u k hu hk e => by
    simp only [Value.ownBlock, Option.some.injEq] at e
    have := h.lt hu hk; omega) hv hg

set_option maxRecDepth 8000 in
theorem refnew_any {W : World} {s : ByteArray} {a1 a2 a3 a4 a5 a6 a7 a8 : Option Addr} {n1 m1 n2 m2 m3 n4 m4 n5 m5 n6 m6 n7 m7 n8 m8 : Nat} {rs : List Rg.Reg} (hr : Rows W 3 Rg.RegR (.slice a3 rs.length m3) rs) (h8 : rs.length ≤ 8) :
    Calls Try.prog 32 #[.agg #[.string s, .slice a1 n1 m1, .slice a2 n2 m2, .slice a3 rs.length m3, .slice a4 n4 m4, .slice a5 n5 m5, .slice a6 n6 m6, .slice a7 n7 m7, .slice a8 n8 m8]] W (TabP W (Rg.new rs)) := by
  obtain ⟨_, _, he, lb, mb⟩ := hr.slice
  simp only [Value.slice.injEq, true_and] at he
  obtain ⟨rfl, rfl⟩ := he
  unfold maxLen at mb
  have HR := Lib.hid hr
  clear hr
  have bb := alloc_heap W (.cells #[.string s, .slice a1 n1 m1, .slice a2 n2 m2, .slice a3 rs.length m3, .slice a4 n4 m4, .slice a5 n5 m5, .slice a6 n6 m6, .slice a7 n7 m7, .slice a8 n8 m8] 76)
  have p0 := alw (cell_of (o := 0) bb)
  have p1 := alw (cell_of (o := 1) bb)
  have p2 := alw (cell_of (o := 2) bb)
  have p3 := alw (cell_of (o := 3) bb)
  have p4 := alw (cell_of (o := 4) bb)
  have p5 := alw (cell_of (o := 5) bb)
  have p6 := alw (cell_of (o := 6) bb)
  have p7 := alw (cell_of (o := 7) bb)
  have p8 := alw (cell_of (o := 8) bb)
  clear bb
  go_enter Try.func32, Try.ntmps32
  go_wp2_with fail
  go_loopw [3, 4] (fun o i wr => ∃ k : Nat, k ≤ rs.length ∧ i = .int .i64 k ∧ ∃ oa oc, o = .slice oa k oc ∧ Hid (Ext (W.alloc (.cells #[.string s, .slice a1 n1 m1, .slice a2 n2 m2, .slice a3 rs.length m3, .slice a4 n4 m4, .slice a5 n5 m5, .slice a6 n6 m6, .slice a7 n7 m7, .slice a8 n8 m8] 76)) wr ∧ ∃ vs, Tab (W.heap.size + 1) wr (.slice oa k oc) vs ((Rg.new rs).take k))) (fun _ i _ => rs.length - (intOf i).toNat)
  case atStart => exact ⟨0, Nat.zero_le _, rfl, none, 0, rfl, Lib.hid ⟨Ext.refl _, [], Tab.nil⟩⟩
  case round =>
    obtain ⟨k, hk, rfl, oa, oc, rfl, HI⟩ := hrel
    obtain ⟨v1, rfl⟩ : ∃ v1 : World, v1 = wr := ⟨_, rfl⟩
    obtain ⟨hx, vs, ht⟩ := HI.out
    have sx := Step.mk hx
    have HT := Lib.hid ht
    have HX := Lib.hid hx
    have hsz := hx.le
    rw [World.size_alloc] at hsz
    have HLK := Lib.hid (take_len (l := Rg.new rs) (k := k) (by rw [Rg.new_len]; exact hk))
    by_cases hlt : k < rs.length
    · obtain ⟨⟨gn, gw, gs⟩, hgk⟩ : ∃ y, rs[k]? = some y := ⟨_, List.getElem?_eq_getElem hlt⟩
      obtain ⟨b2, o2, hb2, _, _⟩ := Rows.at HR.out (by omega)
      subst hb2
      obtain ⟨f3, f4, f5, q3, q1, q2⟩ := regs_at HR.out k _ hgk rfl
      dsimp only at f3 f4 f5
      have HTK := Lib.hid (take_at (Rg.new_at hgk))
      obtain ⟨m, hm⟩ : ∃ m, m = (if 1 ≤ gs ∧ gs ≤ 64 then gs.toNat else 0) := ⟨_, rfl⟩
      have HNR : Hid (Rg.newR ⟨gn, gw, gs⟩ = List.replicate m 0) := Lib.hid (by rw [Rg.new_cut, hm])
      have hm64 : m ≤ 64 := by rw [hm]; split <;> omega
      have hmr := mk_row m (by omega)
      have hown := HT.out.2.1
      have HOW : Hid (v1.ownsRow (W.heap.size + 1) 90 1 (.slice oa k oc) k vs) := Lib.hid (by rw [HLK.out] at hown; exact hown)
      have h1 := alloc_heap v1 (.cells (madeCells #[.int .u32 0] m) 23)
      have HO1 := Lib.hid (own_ext HOW.out (((Ext.refl v1).alloc (.cells (madeCells #[.int .u32 0] m) 23)).alloc (.cells #[.slice (some ⟨v1.heap.size, 0, none⟩) m m] 90)))
      have hs1 := src_one (v1.alloc (.cells (madeCells #[.int .u32 0] m) 23)) (.slice (some ⟨v1.heap.size, 0, none⟩) m m) 90 rfl
      rw [World.size_alloc] at hs1
      have HS1 := Lib.hid hs1
      clear ht hx HI hgk q3 hown h1 hs1
      by_cases hs : 1 ≤ gs ∧ gs ≤ 64
      · obtain rfl : gs = (m : Int) := by rw [hm, if_pos hs]; omega
        obtain ⟨hs1, hs2⟩ := hs
        clear hm
        go_wp2_with (at_builtin; refine wpList_append_src rfl (.tmp 25) (.tmp 28) 77 rfl (W.heap.size + 1) 90 (.slice none 0 0) 1 24 Try.underlying77 info_u32s rfl (by decide) (.slice oa k oc) k vs rfl HO1.out _ 1 [.slice (some ⟨v1.heap.size, 0, none⟩) m m] rfl HS1.out (by unfold maxLen; omega) (by omega) (by simp; omega) ?_; intro v' w' hv' hg' _; obtain ⟨oa', oc', he⟩ := own_slice hv'; subst he; have HV := Lib.hid hv'; have HG := Lib.hid hg'; clear hv' hg')
        go_roundw
        case rel =>
          refine ⟨k + 1, by omega, by go_num, oa', oc', rfl, Lib.hid ⟨ext_grown ((HX.out.alloc _).alloc _) HG.out (fun q hq => by rw [World.size_alloc]; exact own_ge HOW.out hq), vs ++ [.slice (some ⟨v1.heap.size, 0, none⟩) m m], ?_⟩⟩
          rw [HTK.out, HNR.out]
          exact Tab.pushMade HT.out (by omega) (by unfold maxLen; omega) ((Ext.refl _).alloc _) (by rw [HLK.out]; exact HV.out) HG.out
        case measure => simp [intOf]; omega
      · obtain rfl : m = 0 := by rw [hm, if_neg hs]
        have hmz : ∀ w : World, (Instr.makeSlice 90 (.int .i64 0) (.int .i64 0)).run Try.prog w = .ok (.slice (some ⟨w.heap.size, 0, none⟩) 0 0) (w.alloc (.cells (madeCells #[.int .u32 0] 0) 23)) := hmr
        clear hm hmr
        rcases (show gs < 1 ∨ (1 ≤ gs ∧ 64 < gs) by omega) with hs1 | ⟨hs1, hs2⟩
        all_goals
          clear hs
          go_wp2_with (at_builtin; refine wpList_append_src rfl (.tmp 25) (.tmp 28) 77 rfl (W.heap.size + 1) 90 (.slice none 0 0) 1 24 Try.underlying77 info_u32s rfl (by decide) (.slice oa k oc) k vs rfl HO1.out _ 1 [.slice (some ⟨v1.heap.size, 0, none⟩) 0 0] rfl HS1.out (by unfold maxLen; omega) (by omega) (by simp; omega) ?_; intro v' w' hv' hg' _; obtain ⟨oa', oc', he⟩ := own_slice hv'; subst he; have HV := Lib.hid hv'; have HG := Lib.hid hg'; clear hv' hg')
          go_roundw
          case rel =>
            refine ⟨k + 1, by omega, by go_num, oa', oc', rfl, Lib.hid ⟨ext_grown ((HX.out.alloc _).alloc _) HG.out (fun q hq => by rw [World.size_alloc]; exact own_ge HOW.out hq), vs ++ [.slice (some ⟨v1.heap.size, 0, none⟩) 0 0], ?_⟩⟩
            rw [HTK.out, HNR.out]
            exact Tab.pushMade HT.out (by omega) (by unfold maxLen; omega) ((Ext.refl _).alloc _) (by rw [HLK.out]; exact HV.out) HG.out
          case measure => simp [intOf]; omega
    · obtain rfl : k = rs.length := by omega
      go_wp2_with fail
      go_ret
      have h := HT.out
      rw [show (Rg.new rs).take rs.length = Rg.new rs by rw [← Rg.new_len rs, List.take_length]] at h
      exact tab_ret (((Ext.refl W).alloc _).trans HX.out) (h.base (Nat.le_succ _))
set_option maxRecDepth 8000 in
theorem dup_any {W : World} {v : Value} {ls : List (List Int)} (hl : Rows W 1 RowR v ls) (h8 : ls.length ≤ 8) (h100 : ∀ l ∈ ls, l.length ≤ 1000) :
    Calls Try.prog 65 #[v] W (TabP W ls) := by
  obtain ⟨lo, lc, rfl, la, ma⟩ := hl.slice
  unfold maxLen at ma
  have HL := Lib.hid hl
  have H100 := Lib.hid h100
  clear hl h100
  have hmt := mk_tab ls.length (by omega)
  go_enter Try.func65, Try.ntmps65
  go_wp2_with fail
  go_loopw [11] (fun i wr => ∃ k : Nat, k ≤ ls.length ∧ i = .int .i64 k ∧ Hid (Ext W wr ∧ ∃ vs, Tab W.heap.size wr (.slice (some ⟨W.heap.size, 0, none⟩) ls.length ls.length) vs (Rg.part ls k))) (fun i _ => ls.length - (intOf i).toNat)
  case atStart =>
    refine ⟨0, Nat.zero_le _, rfl, Lib.hid ⟨(Ext.refl _).alloc _, List.replicate ls.length (.slice none 0 0), ?_⟩⟩
    rw [Rg.part_zero]
    exact Tab.made (B := W.heap.size) (w := W) (n := ls.length) (Nat.le_refl _) (by unfold maxLen; omega)
  case round =>
    obtain ⟨k, hk, rfl, HI⟩ := hrel
    obtain ⟨v1, rfl⟩ : ∃ v1 : World, v1 = wr := ⟨_, rfl⟩
    obtain ⟨hx, vs, ht⟩ := HI.out
    have sx := Step.mk hx
    have HT := Lib.hid ht
    have HX := Lib.hid hx
    have hsz := hx.le
    have HLP := Lib.hid (Rg.part_len ls hk)
    by_cases hlt : k < ls.length
    · obtain ⟨l, hlk⟩ : ∃ x, ls[k]? = some x := ⟨_, List.getElem?_eq_getElem hlt⟩
      obtain ⟨b1, o1, hb1, _, _⟩ := Rows.at HL.out (by omega)
      subst hb1
      obtain ⟨la1, lc1, f1, n1, u1⟩ := rows_at HL.out k l hlk rfl
      have hl1 := H100.out l (List.mem_of_getElem? hlk)
      obtain ⟨u, hu, hc, hf⟩ := ht.at (k := k) (by rw [HLP.out]; exact hlt)
      have hGv : W.heap.size < v1.heap.size := own_lt' ht.2.1
      have HPS := Lib.hid (Rg.part_succ hlk)
      have HN1 := Lib.hid n1
      have HU1 := Lib.hid u1
      have hmr := mk_row l.length (by omega)
      obtain ⟨g, hg⟩ : ∃ g, g = v1.heap.size := ⟨_, rfl⟩
      obtain ⟨Wc, hWd⟩ : ∃ Wc, Wc = (v1.setCell ⟨W.heap.size, k, none⟩ (.slice (some ⟨v1.heap.size, 0, none⟩) l.length l.length)).alloc (.cells (madeCells #[.int .u32 0] l.length) 23) := ⟨_, rfl⟩
      have hWc : Wc = (v1.alloc (.cells (madeCells #[.int .u32 0] l.length) 23)).setCell ⟨W.heap.size, k, none⟩ (.slice (some ⟨v1.heap.size, 0, none⟩) l.length l.length) := by rw [hWd, World.setCell_alloc_past _ _ _ _ hGv]
      have hWs : Wc.heap.size = v1.heap.size + 1 := by rw [hWd, World.size_alloc]; simp [World.setCell]
      have HWS := Lib.hid hWs
      have hxc : Ext W Wc := by rw [hWc]; exact (hx.alloc _).setCell (Nat.le_refl _) _
      have hgc : Wc.heap[v1.heap.size]? = some (.cells (List.replicate l.length (Value.int .u32 0)).toArray 23 (0, 0)) := by
        rw [hWc, Below.heap_setCell _ _ _ _ (by show v1.heap.size ≠ W.heap.size; omega), alloc_heap, ← made_list]
      have HGC := Lib.hid hgc
      have HWC := Lib.hid hWd
      have hsrc := n1.1.ext hxc
      have HSRC := Lib.hid hsrc
      have HXC := Lib.hid hxc
      obtain ⟨cs, hcs⟩ : ∃ cs, cs = l.map (Value.int .u32) := ⟨_, rfl⟩
      have hcl : cs.length = l.length := by rw [hcs]; simp
      have HCS := Lib.hid hcs
      have HCL := Lib.hid hcl
      have htc : Tab W.heap.size Wc (.slice (some ⟨W.heap.size, 0, none⟩) ls.length ls.length) (vs.set k (.slice (some ⟨v1.heap.size, 0, none⟩) l.length l.length)) ((Rg.part ls k).set k (List.replicate l.length 0)) := by
        rw [hWc]
        have ho := own_made (B := W.heap.size) (w := v1) (m := l.length) hsz (by unfold maxLen; omega)
        have h1 := Tab.setRow (m := l.length) (k := l.length) (g := v1.heap.size) (l := List.replicate l.length 0) (ht.ext ((Ext.refl v1).alloc (.cells (madeCells #[.int .u32 0] l.length) 23))) (i := k) (by rw [HLP.out]; exact hlt) ho zero_u32 (fun j y hy e => by have h1 := ht.lt hy e; omega)
        exact h1
      have HTC := Lib.hid htc
      clear ht hx HI hlk n1 u1 hg hWc hWd hWs hgc hsrc hxc hcs hcl htc
      go_wp2_with (refine wpList_copy_splice rfl (.tmp 25) (.tmp 26) 90 90 rfl 23 Try.underlying90 (by kernel_rfl) (some ⟨v1.heap.size, 0, none⟩) la1 l.length l.length l.length lc1 rfl rfl v1.heap.size 0 (List.replicate l.length (Value.int .u32 0)) 23 (by rw [← HWC.out]; exact HGC.out) cs (by rw [HCL.out]; exact (Nat.min_self _).symm) (copy_pos HSRC HCS (by rw [HWC.out])) (by rw [HCL.out]; simp) (by rw [HCS.out]; exact ints_one) v1.heap.size Wc (by rw [HWC.out]; exact Below.refl _ _) (Nat.le_refl _) ?_; intro w' hw' hb'; have HB' := Lib.hid hb'; clear hb')
      go_roundw
      case rel =>
        refine ⟨k + 1, by omega, by go_num, Lib.hid ⟨Below.trans HXC.out (HB'.out.mono hsz), vs.set k (.slice (some ⟨v1.heap.size, 0, none⟩) l.length l.length), ?_⟩⟩
        rw [HPS.out]
        have ho : w'.ownsRow W.heap.size 23 1 (.slice (some ⟨v1.heap.size, 0, none⟩) l.length l.length) l.length (l.map (.int .u32)) := by
          have h1 := hw'.out
          rw [splice_all (by rw [HCL.out]; simp), HCS.out] at h1
          exact ⟨by simp, .inr ⟨v1.heap.size, l.length, _, rfl, hsz, h1, Nat.le_refl _, by unfold maxLen; omega, by simp, by simp; exact List.take_of_length_le (by simp)⟩⟩
        have h := Tab.rowTo (w' := w') HTC.out (i := k) (g := v1.heap.size) (l0 := List.replicate l.length 0) (l := l) (List.getElem?_set_self (by rw [HT.out.1, HLP.out]; exact hlt)) (List.getElem?_set_self (by rw [HLP.out]; exact hlt)) (fun q hq hql => HB'.out.block q (by rw [HWS.out] at hql; omega)) ho HU1.out
        rw [List.set_set] at h
        exact h
      case measure => simp [intOf]; omega
    · obtain rfl : k = ls.length := by omega
      go_wp2_with fail
      go_ret
      have h := HT.out
      rw [Rg.part_full] at h
      exact tab_ret HX.out h
end Go.Proofs.Ytnmamcplbeiehaa
