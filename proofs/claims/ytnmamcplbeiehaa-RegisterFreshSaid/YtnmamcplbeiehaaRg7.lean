/- Registers: New and its reference, walked. No condition. -/
import Derived.Test.YtnmamcplbeiehaaRg6
import Derived.Deep.OwnRows
namespace Go.Proofs.Ytnmamcplbeiehaa
open Go.RowKit

theorem alwF {W : World} {p o : Nat} {c : Array Value} {t : TypeId} (h : W.heap[p]? = some (.cells c t (0, 0))) (w : World) [g : Grows W w] : w.frozen? ⟨p, o, none⟩ = false := free_of (g.out.heap h)
theorem info_u32 : (Try.prog.info? 23).map (fun i => (i.zero, i.size, i.bytes)) = some (some (.int .u32 0), 1, 4) := by kernel_rfl
theorem info_u32s : (Try.prog.info? 90).map (fun i => (i.zero, i.size, i.bytes)) = some (some (.slice none 0 0), 1, 24) := by kernel_rfl
theorem mk_row (n : Nat) (h : n ≤ 1000000) (w : World) : (Instr.makeSlice 90 (.int .i64 (n : Int)) (.int .i64 (n : Int))).run Try.prog w = .ok (.slice (some ⟨w.heap.size, 0, none⟩) n n) (w.alloc (.cells (madeCells #[.int .u32 0] n) 23)) :=
  run_make_row' _ _ _ 4 Try.underlying90 info_u32 rfl _ _ n (by omega) (by omega) w
theorem mk_tab (n : Nat) (h : n ≤ 1000000) (w : World) : (Instr.makeSlice 77 (.int .i64 (n : Int)) (.int .i64 (n : Int))).run Try.prog w = .ok (.slice (some ⟨w.heap.size, 0, none⟩) n n) (w.alloc (.cells (madeCells #[.slice none 0 0] n) 90)) :=
  run_make_row' _ _ _ 24 Try.underlying77 info_u32s rfl _ _ n (by omega) (by omega) w
theorem made_list (z : Value) (n : Nat) : (madeCells #[z] n).toList = List.replicate n z := by
  apply List.ext_getElem
  · simp [madeCells]
  · intro i h1 h2; simp [madeCells, Nat.mod_one]
theorem own_made {B : Nat} {w : World} {m : Nat} (hB : B ≤ w.heap.size) (hm : m ≤ maxLen) : (w.alloc (.cells (madeCells #[.int .u32 0] m) 23)).ownsRow B 23 1 (.slice (some ⟨w.heap.size, 0, none⟩) m m) (List.replicate m (0 : Int)).length ((List.replicate m (0 : Int)).map (.int .u32)) := by
  refine ⟨by simp, .inr ⟨w.heap.size, m, _, by simp, hB, alloc_heap w _, by simp, hm, by simp [madeCells], ?_⟩⟩
  rw [made_list]; simp
theorem zero_u32 {m : Nat} : ∀ x ∈ List.replicate m (0 : Int), U32 x := fun x hx => by
  obtain rfl := List.eq_of_mem_replicate hx; exact ⟨by decide, by decide⟩
theorem Tab.made {B : Nat} {w : World} {n : Nat} (hB : B ≤ w.heap.size) (hm : n ≤ maxLen) : Tab B (w.alloc (.cells (madeCells #[.slice none 0 0] n) 90)) (.slice (some ⟨w.heap.size, 0, none⟩) n n) (List.replicate n (.slice none 0 0)) (List.replicate n []) := by
  refine ⟨by simp, ⟨by simp, .inr ⟨w.heap.size, n, _, by simp, hB, alloc_heap w _, by simp, hm, by simp [madeCells], ?_⟩⟩, fun i u l hu hl => ?_, fun i j u u' k hu hu' h1 h2 => ?_⟩
  · rw [made_list]; simp
  · obtain rfl := List.eq_of_mem_replicate (List.mem_of_getElem? hu)
    obtain rfl := List.eq_of_mem_replicate (List.mem_of_getElem? hl)
    exact ⟨World.ownsRow_nil _ _ _ _, by simp⟩
  · obtain rfl := List.eq_of_mem_replicate (List.mem_of_getElem? hu)
    simp [Value.ownBlock] at h1
namespace Rg
def newR (r : Reg) : List Int := if szB r then List.replicate r.s.toNat 0 else []
def new (rs : List Reg) : List (List Int) := rs.map newR
/-- a list of lists, as far as k; the others are empty -/
def part (l : List (List Int)) (k : Nat) : List (List Int) := l.take k ++ List.replicate (l.length - k) []
theorem part_len (l : List (List Int)) {k : Nat} (h : k ≤ l.length) : (part l k).length = l.length := by simp [part]; omega
theorem part_zero (l : List (List Int)) : part l 0 = List.replicate l.length [] := by simp [part]
theorem part_full (l : List (List Int)) : part l l.length = l := by simp [part]
theorem part_get {l : List (List Int)} {k : Nat} (h : k < l.length) : (part l k)[k]? = some [] := by
  unfold part
  have hl : (l.take k).length = k := by simp; omega
  rw [List.getElem?_append_right (by omega), hl, Nat.sub_self, show l.length - k = (l.length - (k + 1)) + 1 by omega, List.replicate_succ]; rfl
theorem set_same {α : Type} {l : List α} {k : Nat} {x : α} (h : l[k]? = some x) : l.set k x = l := by
  apply List.ext_getElem?; intro i
  by_cases hi : k = i
  · subst hi; rw [List.getElem?_set_self (List.getElem?_eq_some_iff.1 h).1, h]
  · rw [List.getElem?_set_ne hi]
theorem part_succ {l : List (List Int)} {k : Nat} {x : List Int} (h : l[k]? = some x) : part l (k + 1) = (part l k).set k x := by
  have hlt := (List.getElem?_eq_some_iff.1 h).1
  unfold part
  have hl : (l.take k).length = k := by simp; omega
  rw [List.set_append_right _ _ (by omega), hl, Nat.sub_self, show l.length - k = (l.length - (k + 1)) + 1 by omega, List.replicate_succ, List.set_cons_zero, List.take_add_one, h]
  simp
theorem new_at {rs : List Reg} {k : Nat} {r : Reg} (h : rs[k]? = some r) : (new rs)[k]? = some (newR r) := by unfold new; simp [h]
theorem new_len (rs : List Reg) : (new rs).length = rs.length := by simp [new]
end Rg
/-- what a call that makes a table leaves -/
def TabP (W : World) (ls : List (List Int)) (e : Ending) (W' : World) : Prop := ∃ v vs, e = .returned v ∧ Ext W W' ∧ Tab W.heap.size W' v vs ls
theorem tab_ret {W W' : World} {v : Value} {vs : List Value} {ls : List (List Int)} (hx : Ext W W') (h : Tab W.heap.size W' v vs ls) : TabP W ls (.returned v) W' := ⟨v, vs, rfl, hx, h⟩
theorem Tab.lt {B : Nat} {w : World} {v : Value} {vs : List Value} {ls : List (List Int)} (h : Tab B w v vs ls) {j : Nat} {u : Value} {k : Nat} (hu : vs[j]? = some u) (hk : u.ownBlock = some k) : k < w.heap.size := by
  obtain ⟨l, hl⟩ : ∃ l, ls[j]? = some l := ⟨_, List.getElem?_eq_getElem (by rw [← h.1]; exact (List.getElem?_eq_some_iff.1 hu).1)⟩
  exact own_lt (h.2.2.1 j u l hu hl).1 hk
/-- the table's cell k, for good: what it holds, and that it may be written -/
theorem Tab.at {B : Nat} {w : World} {G n c : Nat} {vs : List Value} {ls : List (List Int)} (h : Tab B w (.slice (some ⟨G, 0, none⟩) n c) vs ls) {k : Nat} (hk : k < ls.length) : ∃ u, vs[k]? = some u ∧ (∀ w' [Grows w w'], w'.cell? ⟨G, k, none⟩ = some u) ∧ (∀ w' [Grows w w'], w'.frozen? ⟨G, k, none⟩ = false) := by
  obtain ⟨u, hu⟩ : ∃ u, vs[k]? = some u := ⟨_, List.getElem?_eq_getElem (by rw [h.1]; exact hk)⟩
  obtain ⟨cur, hG, _⟩ := own_heap h.2.1 (k := G) rfl
  have h1 := h.2.1.cells (g := G) rfl k u hu
  rw [add_mk, Nat.zero_add] at h1
  exact ⟨u, hu, alw h1, alwF hG⟩
theorem tab_slice {B : Nat} {w : World} {v : Value} {vs : List Value} {ls : List (List Int)} (h : Tab B w v vs ls) : ∃ oa c, v = .slice oa ls.length c := own_slice h.2.1

set_option maxRecDepth 8000 in
theorem new_any {W : World} {s : ByteArray} {a1 a2 a3 a4 a5 a6 a7 a8 : Option Addr} {n1 m1 n2 m2 m3 n4 m4 n5 m5 n6 m6 n7 m7 n8 m8 : Nat} {rs : List Rg.Reg} (hr : Rows W 3 Rg.RegR (.slice a3 rs.length m3) rs) (h8 : rs.length ≤ 8) :
    Calls Try.prog 31 #[.agg #[.string s, .slice a1 n1 m1, .slice a2 n2 m2, .slice a3 rs.length m3, .slice a4 n4 m4, .slice a5 n5 m5, .slice a6 n6 m6, .slice a7 n7 m7, .slice a8 n8 m8]] W (TabP W (Rg.new rs)) := by
  obtain ⟨_, _, he, lb, mb⟩ := hr.slice
  simp only [Value.slice.injEq, true_and] at he
  obtain ⟨rfl, rfl⟩ := he
  unfold maxLen at mb
  have HR := Lib.hid hr
  clear hr
  have bb := alloc_heap W (.cells #[.string s, .slice a1 n1 m1, .slice a2 n2 m2, .slice a3 rs.length m3, .slice a4 n4 m4, .slice a5 n5 m5, .slice a6 n6 m6, .slice a7 n7 m7, .slice a8 n8 m8] 76)
  have p0 := alw (cell_of (o := 0) bb)
  have p1 := alw (cell_of (o := 1) bb)
  have p2 := alw (cell_of (o := 2) bb)
  have p3 := alw (cell_of (o := 3) bb)
  have p4 := alw (cell_of (o := 4) bb)
  have p5 := alw (cell_of (o := 5) bb)
  have p6 := alw (cell_of (o := 6) bb)
  have p7 := alw (cell_of (o := 7) bb)
  have p8 := alw (cell_of (o := 8) bb)
  clear bb
  have hmt := mk_tab rs.length (by omega)
  go_enter Try.func31, Try.ntmps31
  go_wp2_with fail
  go_loopw [13] (fun i wr => ∃ k : Nat, k ≤ rs.length ∧ i = .int .i64 k ∧ Hid (Ext (W.alloc (.cells #[.string s, .slice a1 n1 m1, .slice a2 n2 m2, .slice a3 rs.length m3, .slice a4 n4 m4, .slice a5 n5 m5, .slice a6 n6 m6, .slice a7 n7 m7, .slice a8 n8 m8] 76)) wr ∧ ∃ vs, Tab W.heap.size wr (.slice (some ⟨W.heap.size + 1, 0, none⟩) rs.length rs.length) vs (Rg.part (Rg.new rs) k))) (fun i _ => rs.length - (intOf i).toNat)
  case atStart =>
    refine ⟨0, Nat.zero_le _, rfl, Lib.hid ⟨(Ext.refl _).alloc _, List.replicate rs.length (.slice none 0 0), ?_⟩⟩
    rw [Rg.part_zero, Rg.new_len]
    have h := Tab.made (B := W.heap.size) (w := W.alloc (.cells #[.string s, .slice a1 n1 m1, .slice a2 n2 m2, .slice a3 rs.length m3, .slice a4 n4 m4, .slice a5 n5 m5, .slice a6 n6 m6, .slice a7 n7 m7, .slice a8 n8 m8] 76)) (n := rs.length) (by rw [World.size_alloc]; omega) (by unfold maxLen; omega)
    rw [World.size_alloc] at h
    exact h
  case round =>
    obtain ⟨k, hk, rfl, HI⟩ := hrel
    obtain ⟨v1, rfl⟩ : ∃ v1 : World, v1 = wr := ⟨_, rfl⟩
    obtain ⟨hx, vs, ht⟩ := HI.out
    have sx := Step.mk hx
    have HT := Lib.hid ht
    have HX := Lib.hid hx
    have hsz := hx.le
    rw [World.size_alloc] at hsz
    have hlp : (Rg.part (Rg.new rs) k).length = rs.length := (Rg.part_len _ (by rw [Rg.new_len]; omega)).trans (Rg.new_len rs)
    by_cases hlt : k < rs.length
    · obtain ⟨⟨gn, gw, gs⟩, hgk⟩ : ∃ y, rs[k]? = some y := ⟨_, List.getElem?_eq_getElem hlt⟩
      obtain ⟨b2, o2, hb2, _, _⟩ := Rows.at HR.out (by omega)
      subst hb2
      obtain ⟨f3, f4, f5, q3, q1, q2⟩ := regs_at HR.out k _ hgk rfl
      dsimp only at f3 f4 f5
      obtain ⟨u, hu, hc, hf⟩ := ht.at (k := k) (by omega)
      have HPS := Lib.hid (Rg.part_succ (Rg.new_at hgk))
      have HPG := Lib.hid (Rg.part_get (l := Rg.new rs) (k := k) (by rw [Rg.new_len]; exact hlt))
      have HLP := Lib.hid hlp
      clear ht hx HI hgk hlp q3
      cases hs : Rg.szB ⟨gn, gw, gs⟩ with
      | false =>
        have HNR : Hid (Rg.newR ⟨gn, gw, gs⟩ = []) := Lib.hid (by unfold Rg.newR; rw [hs]; rfl)
        go_wp2_with (go_at_call 55; refine (sized_any ⟨gn, gw, gs⟩ _).mono ?_; rintro e w2 ⟨rfl, x2⟩; rw [hs]; have s2 := Step.mk x2)
        go_roundw
        case rel => exact ⟨k + 1, by omega, by go_num, Lib.hid ⟨HX.out.trans (grows (a := v1)), vs, by rw [HPS.out, HNR.out, Rg.set_same HPG.out]; exact HT.out.ext (grows (a := v1))⟩⟩
        case measure => simp [intOf]; omega
      | true =>
        obtain ⟨m, rfl, hm⟩ : ∃ m : Nat, gs = m ∧ m ≤ 64 := by
          unfold Rg.szB at hs
          simp only [Bool.and_eq_true, decide_eq_true_eq] at hs
          exact ⟨gs.toNat, by omega, by omega⟩
        have HNR : Hid (Rg.newR ⟨gn, gw, (m : Int)⟩ = List.replicate m 0) := Lib.hid (by unfold Rg.newR; rw [hs, if_pos rfl, Int.toNat_natCast])
        have hmr := mk_row m (by omega)
        have bb := alloc_heap v1 (.cells #[.string gn, .int .i64 gw, .int .i64 (m : Int)] 64)
        have r0 := alw (cell_of (o := 0) bb)
        have r1 := alw (cell_of (o := 1) bb)
        have r2 := alw (cell_of (o := 2) bb)
        clear bb
        go_wp2_with (go_at_call 55; refine (sized_any ⟨gn, gw, (m : Int)⟩ _).mono ?_; rintro e w2 ⟨rfl, x2⟩; rw [hs]; have s2 := Step.mk x2)
        go_roundw
        case rel =>
          have gr : Ext v1 w2 := grows (a := v1)
          refine ⟨k + 1, by omega, by go_num, Lib.hid ⟨((HX.out.trans gr).alloc _).setCell (by rw [World.size_alloc]; exact Nat.le_refl _) _, vs.set k (.slice (some ⟨w2.heap.size, 0, none⟩) m m), ?_⟩⟩
          rw [HPS.out, HNR.out]
          exact Tab.setRow (HT.out.ext (gr.alloc _)) (by rw [HLP.out]; exact hlt) (own_made (by have := gr.le; omega) (by unfold maxLen; omega)) zero_u32 (fun j y hy e => by have h1 := HT.out.lt hy e; have h2 := gr.le; omega)
        case measure => simp [intOf]; omega
    · obtain rfl : k = rs.length := by omega
      go_wp2_with fail
      go_ret
      have h := HT.out
      rw [show Rg.part (Rg.new rs) rs.length = Rg.new rs by have := Rg.part_full (Rg.new rs); rw [Rg.new_len] at this; exact this] at h
      exact tab_ret (((Ext.refl W).alloc _).trans HX.out) h
end Go.Proofs.Ytnmamcplbeiehaa
