/- Layer 2: nil and unmade readers and writers, walked; the law on them. No condition. -/
import Derived.Test.YtpcoikgbpdedcaaIoL2
import Derived.Test.YtpcoikgbpdedcaaBvL
namespace Go.Proofs.Ytpcoikgbpdedcaa
open Go.RowKit

/-- nil, or a pointer to a block whose field made is false -/
def Dead (w : World) (v : Value) : Prop := v = .pointer none ∨ ∃ p, v = .pointer (some ⟨p, 0, none⟩) ∧ w.cell? ⟨p, 2, none⟩ = some (.bool false)
theorem rvalid_dead {w : World} {v : Value} (h : Dead w v) : Calls Try.prog 70 #[v] w fun e w' => e = .returned (.bool false) ∧ w = w' := by
  rcases h with rfl | ⟨p, rfl, c⟩
  all_goals
    go_enter Try.func70, Try.ntmps70
    go_wp2
    go_ret
    exact ⟨rfl, rfl⟩
theorem readBits_dead {w : World} {v : Value} (h : Dead w v) (k : Int) : Calls Try.prog 57 #[v, .int .i64 k] w fun e w' => e = .returned (.tuple #[.int .u32 0, .int .i64 1]) ∧ w = w' := by
  go_enter Try.func57, Try.ntmps57
  go_wp2_with (go_at_call 70; refine (rvalid_dead h).mono ?_; rintro e w1 ⟨rfl, rfl⟩)
  go_ret2
  exact ⟨rfl, rfl⟩
theorem rest_dead {w : World} {v : Value} (h : Dead w v) : Calls Try.prog 61 #[v] w fun e w' => e = .returned (.tuple #[.slice none 0 0, .int .i64 1]) ∧ w = w' := by
  go_enter Try.func61, Try.ntmps61
  go_wp2_with (go_at_call 70; refine (rvalid_dead h).mono ?_; rintro e w1 ⟨rfl, rfl⟩)
  go_ret2
  exact ⟨rfl, rfl⟩
theorem remaining_dead {w : World} {v : Value} (h : Dead w v) : Calls Try.prog 58 #[v] w fun e w' => e = .returned (.int .i64 0) ∧ w = w' := by
  go_enter Try.func58, Try.ntmps58
  go_wp2_with (go_at_call 70; refine (rvalid_dead h).mono ?_; rintro e w1 ⟨rfl, rfl⟩)
  go_ret
  exact ⟨rfl, rfl⟩
theorem writeBits_dead {w : World} {v : Value} (h : Dead w v) (x k : Int) : Calls Try.prog 50 #[v, .int .u32 x, .int .i64 k] w fun e w' => e = .returned (.int .i64 1) ∧ w = w' := by
  rcases h with rfl | ⟨p, rfl, c⟩
  all_goals
    go_enter Try.func50, Try.ntmps50
    go_wp2
    go_ret
    exact ⟨rfl, rfl⟩
theorem bytes_dead {w : World} {v : Value} (h : Dead w v) : Calls Try.prog 52 #[v] w fun e w' => e = .returned (.tuple #[.slice none 0 0, .int .i64 1]) ∧ w = w' := by
  rcases h with rfl | ⟨p, rfl, c⟩
  all_goals
    go_enter Try.func52, Try.ntmps52
    go_wp2
    go_ret2
    exact ⟨rfl, rfl⟩
theorem wlen_dead {w : World} {v : Value} (h : Dead w v) : Calls Try.prog 54 #[v] w fun e w' => e = .returned (.int .i64 0) ∧ w = w' := by
  rcases h with rfl | ⟨p, rfl, c⟩
  all_goals
    go_enter Try.func54, Try.ntmps54
    go_wp2
    go_ret
    exact ⟨rfl, rfl⟩
theorem alloc_cell (w : World) (b : Nat) (hb : b = w.heap.size) (c : Array Value) (t : TypeId) (f : Nat × Nat) (o : Nat) (v : Value) (h : c[o]? = some v) : (w.alloc (.cells c t f)).cell? ⟨b, o, none⟩ = some v := by
  subst hb; rw [cell_of (alloc_heap _ _), h]

set_option maxRecDepth 8000 in
set_option maxHeartbeats 800000 in
theorem bitioNil_walk (v n : Int) (W : World) (_wv : (Lit.int .u32 v).wf = true) (_wn : (Lit.int .i64 n).wf = true) :
    Calls Try.prog 14 #[.int .u32 v, .int .i64 n] W (Rets W (.bool true)) := by
  clear _wv _wn
  go_enter Try.func14, Try.ntmps14
  go_wp2_with fail
  go_loopw [9] (fun i wr => ∃ k : Nat, k ≤ 2 ∧ i = .int .i64 k ∧ Ext W wr
    ∧ wr.cell? ⟨W.heap.size + 1, 0, none⟩ = some (.pointer none) ∧ wr.cell? ⟨W.heap.size + 1, 1, none⟩ = some (.pointer (some ⟨W.heap.size, 0, none⟩)) ∧ wr.cell? ⟨W.heap.size, 2, none⟩ = some (.bool false)
    ∧ wr.cell? ⟨W.heap.size + 3, 0, none⟩ = some (.pointer none) ∧ wr.cell? ⟨W.heap.size + 3, 1, none⟩ = some (.pointer (some ⟨W.heap.size + 2, 0, none⟩)) ∧ wr.cell? ⟨W.heap.size + 2, 2, none⟩ = some (.bool false)) (fun i _ => 2 - (intOf i).toNat)
  case atStart =>
    refine ⟨0, by decide, rfl, (((((Ext.refl W).alloc _).alloc _).alloc _).alloc _), ?_, ?_, ?_, ?_, ?_, ?_⟩
    · exact (((Ext.refl _).alloc _).alloc _).cell (alloc_cell _ _ (by simp) _ _ _ _ _ rfl)
    · exact (((Ext.refl _).alloc _).alloc _).cell (alloc_cell _ _ (by simp) _ _ _ _ _ rfl)
    · exact ((((Ext.refl _).alloc _).alloc _).alloc _).cell (alloc_cell _ _ (by simp) _ _ _ _ _ rfl)
    · exact alloc_cell _ _ (by simp) _ _ _ _ _ rfl
    · exact alloc_cell _ _ (by simp) _ _ _ _ _ rfl
    · exact ((Ext.refl _).alloc _).cell (alloc_cell _ _ (by simp) _ _ _ _ _ rfl)
  case round =>
    obtain ⟨k, hk, rfl, hx, c0, c1, c2, d0, d1, d2⟩ := hrel
    have k0 : Dead wr (.pointer none) := .inl rfl
    have k1 : Dead wr (.pointer (some ⟨W.heap.size, 0, none⟩)) := .inr ⟨_, rfl, c2⟩
    have k2 : Dead wr (.pointer (some ⟨W.heap.size + 2, 0, none⟩)) := .inr ⟨_, rfl, d2⟩
    have HX := Lib.hid hx
    have C0 := Lib.hid c0
    have C1 := Lib.hid c1
    have C2 := Lib.hid c2
    have D0 := Lib.hid d0
    have D1 := Lib.hid d1
    have D2 := Lib.hid d2
    have K0 := Lib.hid k0
    have K1 := Lib.hid k1
    have K2 := Lib.hid k2
    clear hx k0 k1 k2
    rcases (show k = 0 ∨ k = 1 ∨ k = 2 by omega) with rfl | rfl | rfl
    · clear c1 c2 d1 d2
      go_wp2_with (first
        | (go_at_call 57; refine (readBits_dead K0.out _).mono ?_; rintro e w1 ⟨rfl, rfl⟩)
        | (go_at_call 61; refine (rest_dead K0.out).mono ?_; rintro e w1 ⟨rfl, rfl⟩)
        | (go_at_call 58; refine (remaining_dead K0.out).mono ?_; rintro e w1 ⟨rfl, rfl⟩)
        | (go_at_call 52; refine (bytes_dead K0.out).mono ?_; rintro e w1 ⟨rfl, rfl⟩)
        | (go_at_call 50; refine (writeBits_dead K0.out _ _).mono ?_; rintro e w1 ⟨rfl, rfl⟩)
        | (go_at_call 54; refine (wlen_dead K0.out).mono ?_; rintro e w1 ⟨rfl, rfl⟩))
      go_roundw
      case rel => exact ⟨1, by decide, by go_num, HX.out, C0.out, C1.out, C2.out, D0.out, D1.out, D2.out⟩
      case measure => simp [intOf]
    · clear c0 c2 d0 d2
      go_wp2_with (first
        | (go_at_call 57; refine (readBits_dead K1.out _).mono ?_; rintro e w1 ⟨rfl, rfl⟩)
        | (go_at_call 61; refine (rest_dead K1.out).mono ?_; rintro e w1 ⟨rfl, rfl⟩)
        | (go_at_call 58; refine (remaining_dead K1.out).mono ?_; rintro e w1 ⟨rfl, rfl⟩)
        | (go_at_call 52; refine (bytes_dead K2.out).mono ?_; rintro e w1 ⟨rfl, rfl⟩)
        | (go_at_call 50; refine (writeBits_dead K2.out _ _).mono ?_; rintro e w1 ⟨rfl, rfl⟩)
        | (go_at_call 54; refine (wlen_dead K2.out).mono ?_; rintro e w1 ⟨rfl, rfl⟩))
      go_roundw
      case rel => exact ⟨2, by decide, by go_num, HX.out, C0.out, C1.out, C2.out, D0.out, D1.out, D2.out⟩
      case measure => simp [intOf]
    · clear c0 c1 c2 d0 d1 d2
      go_wp2_with (go_at_call 41; refine (works_any _).mono ?_; rintro e w12 ⟨rfl, hy⟩)
      go_ret
      exact ⟨rfl, HX.out.trans hy⟩
end Go.Proofs.Ytpcoikgbpdedcaa
