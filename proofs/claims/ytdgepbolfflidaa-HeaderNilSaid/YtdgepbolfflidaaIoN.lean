/- Layer 2: nil and unmade readers and writers, walked; the law on them. No condition. -/
import Derived.Test.YtdgepbolfflidaaIoL2
import Derived.Test.YtdgepbolfflidaaBvL
namespace Go.Proofs.Ytdgepbolfflidaa
open Go.RowKit

/-- nil, or a pointer to a block whose field made is false -/
def Dead (w : World) (v : Value) : Prop := v = .pointer none ∨ ∃ p, v = .pointer (some ⟨p, 0, none⟩) ∧ w.cell? ⟨p, 2, none⟩ = some (.bool false)
theorem rvalid_dead {w : World} {v : Value} (h : Dead w v) : Calls Try.prog 69 #[v] w fun e w' => e = .returned (.bool false) ∧ w = w' := by
  rcases h with rfl | ⟨p, rfl, c⟩
  all_goals
    go_enter Try.func69, Try.ntmps69
    go_wp2
    go_ret
    exact ⟨rfl, rfl⟩
theorem readBits_dead {w : World} {v : Value} (h : Dead w v) (k : Int) : Calls Try.prog 24 #[v, .int .i64 k] w fun e w' => e = .returned (.tuple #[.int .u32 0, .int .i64 1]) ∧ w = w' := by
  go_enter Try.func24, Try.ntmps24
  go_wp2_with (go_at_call 69; refine (rvalid_dead h).mono ?_; rintro e w1 ⟨rfl, rfl⟩)
  go_ret2
  exact ⟨rfl, rfl⟩
theorem rest_dead {w : World} {v : Value} (h : Dead w v) : Calls Try.prog 71 #[v] w fun e w' => e = .returned (.tuple #[.slice none 0 0, .int .i64 1]) ∧ w = w' := by
  go_enter Try.func71, Try.ntmps71
  go_wp2_with (go_at_call 69; refine (rvalid_dead h).mono ?_; rintro e w1 ⟨rfl, rfl⟩)
  go_ret2
  exact ⟨rfl, rfl⟩
theorem remaining_dead {w : World} {v : Value} (h : Dead w v) : Calls Try.prog 29 #[v] w fun e w' => e = .returned (.int .i64 0) ∧ w = w' := by
  go_enter Try.func29, Try.ntmps29
  go_wp2_with (go_at_call 69; refine (rvalid_dead h).mono ?_; rintro e w1 ⟨rfl, rfl⟩)
  go_ret
  exact ⟨rfl, rfl⟩
theorem writeBits_dead {w : World} {v : Value} (h : Dead w v) (x k : Int) : Calls Try.prog 59 #[v, .int .u32 x, .int .i64 k] w fun e w' => e = .returned (.int .i64 1) ∧ w = w' := by
  rcases h with rfl | ⟨p, rfl, c⟩
  all_goals
    go_enter Try.func59, Try.ntmps59
    go_wp2
    go_ret
    exact ⟨rfl, rfl⟩
theorem bytes_dead {w : World} {v : Value} (h : Dead w v) : Calls Try.prog 57 #[v] w fun e w' => e = .returned (.tuple #[.slice none 0 0, .int .i64 1]) ∧ w = w' := by
  rcases h with rfl | ⟨p, rfl, c⟩
  all_goals
    go_enter Try.func57, Try.ntmps57
    go_wp2
    go_ret2
    exact ⟨rfl, rfl⟩
theorem wlen_dead {w : World} {v : Value} (h : Dead w v) : Calls Try.prog 63 #[v] w fun e w' => e = .returned (.int .i64 0) ∧ w = w' := by
  rcases h with rfl | ⟨p, rfl, c⟩
  all_goals
    go_enter Try.func63, Try.ntmps63
    go_wp2
    go_ret
    exact ⟨rfl, rfl⟩
theorem alloc_cell (w : World) (b : Nat) (hb : b = w.heap.size) (c : Array Value) (t : TypeId) (f : Nat × Nat) (o : Nat) (v : Value) (h : c[o]? = some v) : (w.alloc (.cells c t f)).cell? ⟨b, o, none⟩ = some v := by
  subst hb; rw [cell_of (alloc_heap _ _), h]

end Go.Proofs.Ytdgepbolfflidaa
