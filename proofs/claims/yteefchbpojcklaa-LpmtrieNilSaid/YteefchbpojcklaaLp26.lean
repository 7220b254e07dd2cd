/- Tries of prefixes: a trie that was not made; the law Nil, walked. No condition. -/
import Derived.Test.YteefchbpojcklaaLp21
import Derived.OwnWalk
namespace Go.Proofs.Yteefchbpojcklaa
open Go.RowKit

/-- a trie that was not made by New -/
def UnM (p : Option Addr) (W : World) : Prop := ∀ w', Ext W w' → Calls Try.prog 25 #[.pointer p] w' (Rets w' (.bool false))
theorem UnM.ext {p : Option Addr} {W W' : World} (h : UnM p W) (hx : Ext W W') : UnM p W' := fun w' hx' => h w' (hx.trans hx')
set_option maxRecDepth 8000 in
theorem un_nil (W : World) : UnM none W := fun w' _ => by
  go_enter Try.func25, Try.ntmps25
  go_wp2_with fail
  go_ret
  exact ⟨rfl, grows⟩
set_option maxRecDepth 8000 in
theorem un_zero {W : World} {g : Nat} (h : W.heap[g]? = some (.cells #[.int .i64 0, .pointer none] 61 (0, 0))) : UnM (some ⟨g, 0, none⟩) W := fun w' hx => by
  have h' := hx.heap h
  have c1 := alw (cell_of (o := 1) h')
  clear h h'
  go_enter Try.func25, Try.ntmps25
  go_wp2_with fail
  go_ret
  exact ⟨rfl, grows⟩
set_option maxRecDepth 8000 in
theorem insert_un {W : World} {p : Option Addr} (hm : UnM p W) (v n x : Int) :
    Calls Try.prog 12 #[.pointer p, .int .u32 v, .int .i64 n, .int .i64 x] W (Rets W (.int .i64 1)) := by
  have HM := Lib.hid hm
  clear hm
  go_enter Try.func12, Try.ntmps12
  go_wp2_with fail
  refine (HM.out _ grows).mono ?_
  rintro e w1 ⟨rfl, x1⟩
  have s1 := Step.mk x1
  clear x1
  go_wp2_with fail
  go_ret
  exact ⟨rfl, grows⟩
set_option maxRecDepth 8000 in
theorem find_un {W : World} {p : Option Addr} (hm : UnM p W) (v n : Int) :
    Calls Try.prog 28 #[.pointer p, .int .u32 v, .int .i64 n] W (Rets W (.pointer none)) := by
  have HM := Lib.hid hm
  clear hm
  go_enter Try.func28, Try.ntmps28
  go_wp2_with fail
  refine (HM.out _ grows).mono ?_
  rintro e w1 ⟨rfl, x1⟩
  have s1 := Step.mk x1
  clear x1
  go_wp2_with fail
  go_ret
  exact ⟨rfl, grows⟩
set_option maxRecDepth 8000 in
theorem get_un {W : World} {p : Option Addr} (hm : UnM p W) (v n : Int) :
    Calls Try.prog 31 #[.pointer p, .int .u32 v, .int .i64 n] W (Rets W (.tuple #[.int .i64 0, .bool false])) := by
  have HM := Lib.hid hm
  clear hm
  go_enter Try.func31, Try.ntmps31
  go_wp2_with fail
  refine (find_un (HM.out.ext grows) v n).mono ?_
  rintro e w1 ⟨rfl, x1⟩
  have s1 := Step.mk x1
  clear x1
  go_wp2_with fail
  go_ret2
  exact ⟨rfl, grows⟩
set_option maxRecDepth 8000 in
theorem delete_un {W : World} {p : Option Addr} (hm : UnM p W) (v n : Int) :
    Calls Try.prog 14 #[.pointer p, .int .u32 v, .int .i64 n] W (Rets W (.bool false)) := by
  have HM := Lib.hid hm
  clear hm
  go_enter Try.func14, Try.ntmps14
  go_wp2_with fail
  refine (find_un (HM.out.ext grows) v n).mono ?_
  rintro e w1 ⟨rfl, x1⟩
  have s1 := Step.mk x1
  clear x1
  go_wp2_with fail
  go_ret
  exact ⟨rfl, grows⟩
set_option maxRecDepth 8000 in
theorem lookup_un {W : World} {p : Option Addr} (hm : UnM p W) (v : Int) :
    Calls Try.prog 19 #[.pointer p, .int .u32 v] W (Rets W (.tuple #[.int .i64 0, .int .i64 0, .bool false])) := by
  have HM := Lib.hid hm
  clear hm
  go_enter Try.func19, Try.ntmps19
  go_wp2_with fail
  refine (HM.out _ grows).mono ?_
  rintro e w1 ⟨rfl, x1⟩
  have s1 := Step.mk x1
  clear x1
  go_wp2_with fail
  go_ret3
  exact ⟨rfl, grows⟩
set_option maxRecDepth 8000 in
set_option maxHeartbeats 4000000 in
theorem empty_any {W : World} {p : Option Addr} (hm : UnM p W) (v n x : Int) :
    Calls Try.prog 20 #[.pointer p, .int .u32 v, .int .i64 n, .int .i64 x] W (Rets W (.bool true)) := by
  have HM := Lib.hid hm
  have HC : Hid (∀ w', Ext W w' → Calls Try.prog 17 #[.pointer p, .int .i64 10] w' (fun e W' => ∃ v, e = .returned (.tuple #[v, .bool true]) ∧ Ext w' W' ∧ Rows W' 3 (PairR 1) v [])) := Lib.hid (fun w' hx => by have h := collect_any (gives_none 1 (hm.ext hx)) (by simp) 10 (by decide); exact h)
  have HL : Hid (∀ w', Ext W w' → Calls Try.prog 22 #[.pointer p] w' (Rets w' (.int .i64 0))) := Lib.hid (fun w' hx => by have h := len_any (gives_none 1 (hm.ext hx)) (by simp); exact h)
  clear hm
  go_enter Try.func20, Try.ntmps20
  go_wp2_with fail
  refine (insert_un (HM.out.ext grows) v n x).mono ?_
  rintro e w1 ⟨rfl, x1⟩
  have s1 := Step.mk x1
  clear x1
  go_wp2_with fail
  refine (get_un (HM.out.ext grows) v n).mono ?_
  rintro e w2 ⟨rfl, x2⟩
  have s2 := Step.mk x2
  clear x2
  go_wp2_with fail
  refine (lookup_un (HM.out.ext grows) v).mono ?_
  rintro e w3 ⟨rfl, x3⟩
  have s3 := Step.mk x3
  clear x3
  go_wp2_with fail
  refine (HC.out _ grows).mono ?_
  rintro e w4 ⟨u, rfl, x4, r4⟩
  have s4 := Step.mk x4
  obtain ⟨ua, uc, rfl, _, _⟩ := r4.slice
  rw [List.length_nil]
  clear x4 r4
  go_wp2_with fail
  refine (delete_un (HM.out.ext grows) v n).mono ?_
  rintro e w5 ⟨rfl, x5⟩
  have s5 := Step.mk x5
  clear x5
  go_wp2_with fail
  refine (HL.out _ grows).mono ?_
  rintro e w6 ⟨rfl, x6⟩
  have s6 := Step.mk x6
  clear x6
  go_wp2_with fail
  go_ret
  exact ⟨rfl, grows⟩
set_option maxRecDepth 8000 in
set_option maxHeartbeats 4000000 in
theorem lpmtrieNil_walk (a0 a1 a2 : Int) (W : World) (_ : (Lit.int .u32 a0).wf = true) (_ : (Lit.int .i64 a1).wf = true) (_ : (Lit.int .i64 a2).wf = true) :
    Calls Try.prog 7 #[.int .u32 a0, .int .i64 a1, .int .i64 a2] W (Rets W (.bool true)) := by
  go_enter Try.func7, Try.ntmps7
  go_wp2_with fail
  refine (empty_any (un_nil _) a0 a1 a2).mono ?_
  rintro e w1 ⟨rfl, x1⟩
  have s1 := Step.mk x1
  clear x1
  go_wp2_with fail
  have hb := alloc_heap w1 (.cells #[.int .i64 0, .pointer none] 61)
  refine (empty_any (un_zero (Ext.heap grows hb)) a0 a1 a2).mono ?_
  rintro e w2 ⟨rfl, x2⟩
  have s2 := Step.mk x2
  clear x2
  go_wp2_with fail
  refine (works_any _).mono ?_
  rintro e w3 ⟨rfl, x3⟩
  have s3 := Step.mk x3
  clear x3
  go_wp2_with fail
  go_ret
  exact ⟨rfl, grows⟩
end Go.Proofs.Yteefchbpojcklaa
