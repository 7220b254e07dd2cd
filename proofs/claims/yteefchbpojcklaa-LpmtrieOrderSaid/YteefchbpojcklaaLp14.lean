/- Tries of prefixes: Insert of the reference, walked. No condition. -/
import Derived.Test.YteefchbpojcklaaLp13
namespace Go.Proofs.Yteefchbpojcklaa
open Go.RowKit

namespace Lp
/-- what Insert of the reference answers and leaves -/
def insLE (L : List Item) (w v : Nat) (n : Int) : Int := bif pfx w v n then (bif decide (0 ≤ fndI L w v n) then 7 else 0) else 9
def insLL (L : List Item) (w v : Nat) (n x : Int) : List Item := if insLE L w v n = 0 then ins L (trunc w v n.toNat, n.toNat, x) else L
theorem ins_len (L : List Item) (y : Item) : (ins L y).length = L.length + 1 := by
  unfold ins
  have := pos_le y L
  rw [List.length_append, List.length_take, List.length_cons, List.length_drop]; omega
end Lp
/-- what Insert of the reference leaves -/
def InsQ (W : World) (L : List Lp.Item) (w v : Nat) (n x : Int) (e : Ending) (W' : World) : Prop :=
  ∃ la' lc', e = .returned (.tuple #[.agg #[.int .i64 w, .slice la' (Lp.insLL L w v n x).length lc'], .int .i64 (Lp.insLE L w v n)]) ∧ Ext W W' ∧ OwnI W' 0 (.slice la' (Lp.insLL L w v n x).length lc') (Lp.insLL L w v n x)
set_option maxRecDepth 8000 in
set_option maxHeartbeats 4000000 in
/-- refused -/
theorem r9insert_not {W : World} {w B : Nat} (h1 : 1 ≤ w) (h2 : w ≤ 32) {la : Option Addr} {lc : Nat} {L : List Lp.Item} (hr : OwnI W B (.slice la L.length lc) L) (v : Nat) (hv : v < 4294967296) (n x : Int) (hE : Lp.insLE L w v n ≠ 0) :
    Calls Try.prog 11 #[.agg #[.int .i64 w, .slice la L.length lc], .int .u32 v, .int .i64 n, .int .i64 x] W (InsQ W L w v n x) := by
  have HF : Hid (∀ w', Calls Try.prog 23 #[.int .u32 v, .int .i64 w] w' (Rets w' (.bool (decide (v < 2 ^ w))))) := Lib.hid (fun w' => r9fits_any h1 h2 hv)
  have HFD : Hid (∀ w', Ext W w' → Calls Try.prog 24 #[.agg #[.int .i64 w, .slice la L.length lc], .int .u32 v, .int .i64 n] w' (Rets w' (.int .i64 (Lp.fndI L w v n)))) := Lib.hid (fun w' hx => r9find_any h1 h2 (items_ext hr.rows hx) v hv n)
  have HR := Lib.hid hr
  have e0 : Lp.insLL L w v n x = L := by unfold Lp.insLL; rw [if_neg hE]
  unfold InsQ
  rw [e0]
  clear e0
  have bb := alloc_heap W (.cells #[.int .i64 w, .slice la L.length lc] 32)
  have bc := alloc_heap (W.alloc (.cells #[.int .i64 w, .slice la L.length lc] 32)) (.cells #[.int .i64 0, .slice none 0 0] 32)
  rw [World.size_alloc] at bc
  have p0 := alw (cell_of (o := 0) bb)
  have p1 := alw (cell_of (o := 1) bb)
  have c0 := alw (cell_of (o := 0) bc)
  have c1 := alw (cell_of (o := 1) bc)
  have g0 := alwF (o := 0) bc
  have g1 := alwF (o := 1) bc
  have HBC := Lib.hid bc
  clear bb bc hr
  by_cases hn0 : n < 0
  · have d0 : decide (n < 0) = true := decide_eq_true hn0
    have e1 : Lp.insLE L w v n = 9 := by unfold Lp.insLE Lp.pfx; rw [decide_eq_false (by omega)]; rfl
    rw [e1]
    clear e1 hE
    go_enter Try.func11, Try.ntmps11
    go_wp2_with fail
    exact bodyPost_ret (v := .tuple #[.agg #[.int .i64 w, .slice la L.length lc], .int .i64 9]) (by simp [results, Try.results11, go_sem]) rfl ⟨la, lc, rfl, grows, (show OwnI _ B _ _ from own_ext HR.out grows).base (Nat.zero_le _)⟩
  · by_cases hnw : (w : Int) < n
    · have d0 : decide (n < 0) = false := decide_eq_false hn0
      have d1 : decide ((w : Int) < n) = true := decide_eq_true hnw
      have e1 : Lp.insLE L w v n = 9 := by unfold Lp.insLE Lp.pfx; rw [decide_eq_false (show ¬ n ≤ (w : Int) by omega), Bool.and_false]; rfl
      rw [e1]
      clear e1 hE
      go_enter Try.func11, Try.ntmps11
      go_wp2_with fail
      exact bodyPost_ret (v := .tuple #[.agg #[.int .i64 w, .slice la L.length lc], .int .i64 9]) (by simp [results, Try.results11, go_sem]) rfl ⟨la, lc, rfl, grows, (show OwnI _ B _ _ from own_ext HR.out grows).base (Nat.zero_le _)⟩
    · obtain ⟨m, rfl⟩ := Int.eq_ofNat_of_zero_le (show 0 ≤ n by omega)
      have d0 : decide ((m : Int) < 0) = false := decide_eq_false hn0
      have d1 : decide (w < m) = false := decide_eq_false (by omega)
      by_cases hf : v < 2 ^ w
      · rw [decide_eq_true hf] at HF
        have hpt : Lp.pfx w v m = true := Lp.pfx_iff.2 ⟨⟨by omega, by omega⟩, hf⟩
        rcases Lp.fndI_cases (L := L) (w := w) (v := v) (n := m) with ⟨e1, _⟩ | ⟨i, V, N, X, e1, _, _⟩
        · exact absurd (by unfold Lp.insLE; rw [hpt, e1]; rfl) hE
        · have e2 : Lp.insLE L w v m = 7 := by unfold Lp.insLE; rw [hpt, e1, decide_eq_true (by omega)]; rfl
          rw [e1] at HFD
          rw [e2]
          clear e1 e2 hE hpt hf hn0 hnw
          go_enter Try.func11, Try.ntmps11
          go_wp2_with fail
          refine (HF.out _).mono ?_
          rintro e w1 ⟨rfl, x1⟩
          have s1 := Step.mk x1
          clear x1
          go_wp2_with fail
          refine (HFD.out _ grows).mono ?_
          rintro e w2 ⟨rfl, x2⟩
          have s2 := Step.mk x2
          clear x2
          go_wp2_with fail
          obtain ⟨md, hb⟩ := set2c (.int .i64 w) (.slice la L.length lc) (show w2.heap[W.heap.size + 1]? = _ from Ext.heap grows HBC.out)
          obtain ⟨w6, h6⟩ : ∃ z, z = ((w2.setCell ⟨W.heap.size + 1, 0, none⟩ (.int .i64 w)).setCell ⟨W.heap.size + 1, 1, none⟩ (.slice la L.length lc)) := ⟨_, rfl⟩
          rw [← h6] at md hb ⊢
          have xw1 : Ext W w2 := grows
          have x6 := xw1.mod md (fun q hq => by rw [hq]; omega)
          have k0 := cell_of (o := 0) hb
          have k1 := cell_of (o := 1) hb
          exact bodyPost_ret (v := .tuple #[.agg #[.int .i64 w, .slice la L.length lc], .int .i64 7]) (by simp [results, Try.results11, go_sem, k0, k1]) rfl ⟨la, lc, rfl, x6, (show OwnI _ B _ _ from own_ext HR.out x6).base (Nat.zero_le _)⟩
      · rw [decide_eq_false hf] at HF
        have e1 : Lp.insLE L w v m = 9 := by unfold Lp.insLE Lp.pfx; rw [decide_eq_false hf, Bool.and_false]; rfl
        rw [e1]
        clear e1 hE hf
        go_enter Try.func11, Try.ntmps11
        go_wp2_with fail
        refine (HF.out _).mono ?_
        rintro e w1 ⟨rfl, x1⟩
        have s1 := Step.mk x1
        clear x1
        go_wp2_with fail
        obtain ⟨md, hb⟩ := set2c (.int .i64 w) (.slice la L.length lc) (show w1.heap[W.heap.size + 1]? = _ from Ext.heap grows HBC.out)
        obtain ⟨w6, h6⟩ : ∃ z, z = ((w1.setCell ⟨W.heap.size + 1, 0, none⟩ (.int .i64 w)).setCell ⟨W.heap.size + 1, 1, none⟩ (.slice la L.length lc)) := ⟨_, rfl⟩
        rw [← h6] at md hb ⊢
        have xw1 : Ext W w1 := grows
        have x6 := xw1.mod md (fun q hq => by rw [hq]; omega)
        have k0 := cell_of (o := 0) hb
        have k1 := cell_of (o := 1) hb
        exact bodyPost_ret (v := .tuple #[.agg #[.int .i64 w, .slice la L.length lc], .int .i64 9]) (by simp [results, Try.results11, go_sem, k0, k1]) rfl ⟨la, lc, rfl, x6, (show OwnI _ B _ _ from own_ext HR.out x6).base (Nat.zero_le _)⟩
end Go.Proofs.Yteefchbpojcklaa
