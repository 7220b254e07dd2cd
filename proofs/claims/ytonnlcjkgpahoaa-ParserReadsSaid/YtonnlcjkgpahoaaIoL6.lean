/- The laws of layer 2, walked: reads. No condition. -/
import Derived.Test.YtonnlcjkgpahoaaIoL3
import Derived.Test.YtonnlcjkgpahoaaIoF2
import Derived.Deep.RegionHeld3
import Derived.Deep.DeepCutAuto
import Derived.Deep.Cut
import Derived.Deep.CutRange
namespace Go.Proofs.Ytonnlcjkgpahoaa
open Go.RowKit

theorem wf_any {l : List Int} (h : ∀ x ∈ l, (Lit.int .u8 x).wf = true) : Io.Bytes l := fun x hx => wf_u8 (h x hx)

namespace Io
def rsE (pos : Nat) : Int := if pos % 8 = 0 then 0 else 10
def rsL (l : List Int) (pos : Nat) : List Int := if pos % 8 = 0 then l.drop (pos / 8) else []
end Io
theorem rest_any {w : World} {base p : Nat} {oa : Option Addr} {n c : Nat} {l : List Int} {pos : Nat} (h : RdrAt w base p oa n c l pos) (hl : l.length ≤ 140737488355328) :
    Calls Try.prog 42 #[.pointer (some ⟨p, 0, none⟩)] w
      fun e w' => ∃ v, e = .returned (.tuple #[v, .int .i64 (Io.rsE pos)]) ∧ Ext w w' ∧ w'.ownsRow w.heap.size 5 1 v (Io.rsL l pos).length (u8s (Io.rsL l pos)) := by
  by_cases hk : pos % 8 = 0
  · have e1 : Io.rsE pos = 0 := by unfold Io.rsE; rw [if_pos hk]
    have e2 : Io.rsL l pos = l.drop (pos / 8) := by unfold Io.rsL; rw [if_pos hk]
    rw [e1, e2]
    exact rest_ok h hk hl
  · have e1 : Io.rsE pos = 10 := by unfold Io.rsE; rw [if_neg hk]
    have e2 : Io.rsL l pos = [] := by unfold Io.rsL; rw [if_neg hk]
    rw [e1, e2]
    exact (rest_width h hk).mono fun e w' ⟨he, hx⟩ => ⟨_, he, hx, World.ownsRow_nil _ _ _ _⟩
theorem rRest_any {w : World} {base : Nat} {oa : Option Addr} {c pos : Nat} {l : List Int} (h : w.ownsRow base 5 1 (.slice oa l.length c) l.length (u8s l)) (hp : pos ≤ 8 * l.length) (hl : l.length ≤ 140737488355328) :
    Calls Try.prog 90 #[.agg #[.slice oa l.length c, .int .i64 pos]] w
      fun e w' => ∃ v, e = .returned (.tuple #[v, .int .i64 (Io.rsE pos)]) ∧ Ext w w' ∧ w'.ownsRow w.heap.size 5 1 v (Io.rsL l pos).length (u8s (Io.rsL l pos)) := by
  by_cases hk : pos % 8 = 0
  · have e1 : Io.rsE pos = 0 := by unfold Io.rsE; rw [if_pos hk]
    have e2 : Io.rsL l pos = l.drop (pos / 8) := by unfold Io.rsL; rw [if_pos hk]
    rw [e1, e2]
    exact rRest_ok h hp hk hl
  · have e1 : Io.rsE pos = 10 := by unfold Io.rsE; rw [if_neg hk]
    have e2 : Io.rsL l pos = [] := by unfold Io.rsL; rw [if_neg hk]
    rw [e1, e2]
    exact (rRest_width hk (by omega)).mono fun e w' ⟨he, hx⟩ => ⟨_, he, hx, World.ownsRow_nil _ _ _ _⟩

end Go.Proofs.Ytonnlcjkgpahoaa
