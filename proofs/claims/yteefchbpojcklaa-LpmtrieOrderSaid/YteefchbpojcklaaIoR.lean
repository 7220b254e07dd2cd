/- The readers of layer 2, walked. No condition. -/
import Derived.Test.YteefchbpojcklaaMem
import Derived.Test.YteefchbpojcklaaIo
import Derived.Test.YteefchbpojcklaaProg
import Derived.Deep.DeepFit
import Derived.Handy
namespace Go.Proofs.Yteefchbpojcklaa
open Go.RowKit

theorem info_u8 : (Try.prog.info? 5).map (fun i => (i.zero, i.size, i.bytes)) = some (some (.int .u8 0), 1, 1) := by kernel_rfl

def u8s (l : List Int) : List Value := l.map (.int .u8)
theorem u8s_one (l : List Int) : ∀ u ∈ u8s l, u.oneCell' = true := by
  intro u hu; obtain ⟨x, _, rfl⟩ := List.mem_map.1 hu; rfl
theorem u8s_get (l : List Int) (i : Nat) (h : i < l.length) : (u8s l)[i]? = some (.int .u8 (l.getD i 0)) := by
  simp [u8s, List.getElem?_eq_getElem h]
theorem u8s_len (l : List Int) : (u8s l).length = l.length := by simp [u8s]

end Go.Proofs.Yteefchbpojcklaa
