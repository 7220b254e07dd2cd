/- The reference's prefix masks, walked, and the examples of the chapter. No condition. -/
import Derived.Test.YtonnlcjkgpahoaaBvR
namespace Go.Proofs.Ytonnlcjkgpahoaa
open Go.RowKit

theorem no5 (j : Nat) (hj : (j : Int) ≤ 8) : Bv.pmask j 8 ≠ 5 := by
  have h : ∀ j ∈ List.range 9, Bv.pmask (j : Int) 8 ≠ 5 := by decide
  exact h j (List.mem_range.2 (by omega))
end Go.Proofs.Ytonnlcjkgpahoaa
