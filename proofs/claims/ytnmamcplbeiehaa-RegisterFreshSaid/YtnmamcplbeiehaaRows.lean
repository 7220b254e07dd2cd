/-
  NARROWER THAN 'FOR EVERY INPUT', by the rows' own cells (each row's printed sentence says how): RegisterContents: loops · RegisterOperations: loops · RegisterRuns: loops · RegisterFresh: loops.
  DERIVED. THE GIVEN ROWS OF THIS SEAT. 10 by the template 'for every input the law returns true; each argument reads behind the call as it read before'; 0 by the template 'total and deterministic' (their statements: YtnmamcplbeiehaaTotals.lean).
  GIVEN WITH THE SEED: the statements are not yours to turn. If you find one false, say at which input.
  Laid BY PROGRAM, IN A SANDBOX (cutbox-rows.mjs): the forced cells as the released guide's own fill.sh prints them over the translation db11f1fe5af947c2… (all of the seat's roots in one cut). By AI agents, Wed Nov 11 2026. No macro, syntax, notation, axiom, sorry.
-/
import Derived.Test.YtnmamcplbeiehaaChecked
import GoSem.Claim
import GoSem.ClaimJoined
import GoSem.ClaimMapViews
import Derived.JoinedTies
import Derived.KernelRfl
namespace Go.Proofs.Ytnmamcplbeiehaa
/- THE CELL 'sum', in the pinned program and in every row, IS THE sha256 OF THE DUMP (.gsa) THAT YtnmamcplbeiehaaProg.lean LOADS. Nothing in Lean hashes anything: it is a label: what it is worth is what the hold of that sum in a sandbox is worth. -/
noncomputable def Try.pinned : Pinned := { name := "ytnmamcplbeiehaa", sum := "db11f1fe5af947c2ca8c0dca0dd913bdd1bb40f379039b1029be20d18ce898a5", checked := Try.checked }
namespace Rows
def none {H : Type} : Left H := { results := [], args := [] }

/-- 'patchbaylaw09.LpmtrieOrder': WHATEVER THE INPUT: true; the input reads as it did. -/
def lpmtrieOrderSpec : ChangeSpec := { name := "lpmtrieOrder", fn := fun _ => fun
  | [d1, d2, d3] => { results := [.lit (.bool true)], args := [d1, d2, d3] }
  | _ => none }
def lpmtrieOrderRow : OpenClaim := { program := "ytnmamcplbeiehaa", sum := "db11f1fe5af947c2ca8c0dca0dd913bdd1bb40f379039b1029be20d18ce898a5", func := "patchbay/patchbaylaw09.LpmtrieOrder", spec := "lpmtrieOrder", unfollowed := true, recurses := true, apart := false }
def LpmtrieOrderSaid : Prop := lpmtrieOrderRow.holds Try.pinned (OpenSpec.ofChange lpmtrieOrderSpec)

/-- ITS FALSE NEIGHBOUR: 'it returns false'. Refute it at one input. -/
def lpmtrieOrderWrong : ChangeSpec := { name := "lpmtrieOrder", fn := fun _ => fun
  | [d1, d2, d3] => { results := [.lit (.bool false)], args := [d1, d2, d3] }
  | _ => none }
def LpmtrieOrderWrongFalsely : Prop := lpmtrieOrderRow.holds Try.pinned (OpenSpec.ofChange lpmtrieOrderWrong)

/-- 'patchbaylaw09.LpmtrieRuns': WHATEVER THE INPUT: true; the input reads as it did. -/
def lpmtrieRunsSpec : ChangeSpec := { name := "lpmtrieRuns", fn := fun _ => fun
  | [d1, d2] => { results := [.lit (.bool true)], args := [d1, d2] }
  | _ => none }
def lpmtrieRunsRow : OpenClaim := { program := "ytnmamcplbeiehaa", sum := "db11f1fe5af947c2ca8c0dca0dd913bdd1bb40f379039b1029be20d18ce898a5", func := "patchbay/patchbaylaw09.LpmtrieRuns", spec := "lpmtrieRuns", unfollowed := true, recurses := true, apart := false }
def LpmtrieRunsSaid : Prop := lpmtrieRunsRow.holds Try.pinned (OpenSpec.ofChange lpmtrieRunsSpec)

/-- ITS FALSE NEIGHBOUR: 'it returns false'. Refute it at one input. -/
def lpmtrieRunsWrong : ChangeSpec := { name := "lpmtrieRuns", fn := fun _ => fun
  | [d1, d2] => { results := [.lit (.bool false)], args := [d1, d2] }
  | _ => none }
def LpmtrieRunsWrongFalsely : Prop := lpmtrieRunsRow.holds Try.pinned (OpenSpec.ofChange lpmtrieRunsWrong)

/-- 'patchbaylaw09.LpmtrieLookups': WHATEVER THE INPUT: true; the input reads as it did. -/
def lpmtrieLookupsSpec : ChangeSpec := { name := "lpmtrieLookups", fn := fun _ => fun
  | [d1, d2, d3] => { results := [.lit (.bool true)], args := [d1, d2, d3] }
  | _ => none }
def lpmtrieLookupsRow : OpenClaim := { program := "ytnmamcplbeiehaa", sum := "db11f1fe5af947c2ca8c0dca0dd913bdd1bb40f379039b1029be20d18ce898a5", func := "patchbay/patchbaylaw09.LpmtrieLookups", spec := "lpmtrieLookups", unfollowed := true, recurses := true, apart := false }
def LpmtrieLookupsSaid : Prop := lpmtrieLookupsRow.holds Try.pinned (OpenSpec.ofChange lpmtrieLookupsSpec)

/-- ITS FALSE NEIGHBOUR: 'it returns false'. Refute it at one input. -/
def lpmtrieLookupsWrong : ChangeSpec := { name := "lpmtrieLookups", fn := fun _ => fun
  | [d1, d2, d3] => { results := [.lit (.bool false)], args := [d1, d2, d3] }
  | _ => none }
def LpmtrieLookupsWrongFalsely : Prop := lpmtrieLookupsRow.holds Try.pinned (OpenSpec.ofChange lpmtrieLookupsWrong)

/-- 'patchbaylaw09.LpmtrieStops': WHATEVER THE INPUT: true; the input reads as it did. -/
def lpmtrieStopsSpec : ChangeSpec := { name := "lpmtrieStops", fn := fun _ => fun
  | [d1, d2, d3] => { results := [.lit (.bool true)], args := [d1, d2, d3] }
  | _ => none }
def lpmtrieStopsRow : OpenClaim := { program := "ytnmamcplbeiehaa", sum := "db11f1fe5af947c2ca8c0dca0dd913bdd1bb40f379039b1029be20d18ce898a5", func := "patchbay/patchbaylaw09.LpmtrieStops", spec := "lpmtrieStops", unfollowed := true, recurses := true, apart := false }
def LpmtrieStopsSaid : Prop := lpmtrieStopsRow.holds Try.pinned (OpenSpec.ofChange lpmtrieStopsSpec)

/-- ITS FALSE NEIGHBOUR: 'it returns false'. Refute it at one input. -/
def lpmtrieStopsWrong : ChangeSpec := { name := "lpmtrieStops", fn := fun _ => fun
  | [d1, d2, d3] => { results := [.lit (.bool false)], args := [d1, d2, d3] }
  | _ => none }
def LpmtrieStopsWrongFalsely : Prop := lpmtrieStopsRow.holds Try.pinned (OpenSpec.ofChange lpmtrieStopsWrong)

/-- 'patchbaylaw09.LpmtrieNil': WHATEVER THE INPUT: true; the input reads as it did. -/
def lpmtrieNilSpec : ChangeSpec := { name := "lpmtrieNil", fn := fun _ => fun
  | [d1, d2, d3] => { results := [.lit (.bool true)], args := [d1, d2, d3] }
  | _ => none }
def lpmtrieNilRow : OpenClaim := { program := "ytnmamcplbeiehaa", sum := "db11f1fe5af947c2ca8c0dca0dd913bdd1bb40f379039b1029be20d18ce898a5", func := "patchbay/patchbaylaw09.LpmtrieNil", spec := "lpmtrieNil", unfollowed := true, recurses := true, apart := false }
def LpmtrieNilSaid : Prop := lpmtrieNilRow.holds Try.pinned (OpenSpec.ofChange lpmtrieNilSpec)

/-- ITS FALSE NEIGHBOUR: 'it returns false'. Refute it at one input. -/
def lpmtrieNilWrong : ChangeSpec := { name := "lpmtrieNil", fn := fun _ => fun
  | [d1, d2, d3] => { results := [.lit (.bool false)], args := [d1, d2, d3] }
  | _ => none }
def LpmtrieNilWrongFalsely : Prop := lpmtrieNilRow.holds Try.pinned (OpenSpec.ofChange lpmtrieNilWrong)

/-- 'patchbaylaw15.RegisterChecks': WHATEVER THE INPUT: true; the input reads as it did. -/
def registerChecksSpec : ChangeSpec := { name := "registerChecks", fn := fun _ => fun
  | [d] => { results := [.lit (.bool true)], args := [d] }
  | _ => none }
def registerChecksRow : OpenClaim := { program := "ytnmamcplbeiehaa", sum := "db11f1fe5af947c2ca8c0dca0dd913bdd1bb40f379039b1029be20d18ce898a5", func := "patchbay/patchbaylaw15.RegisterChecks", spec := "registerChecks", unfollowed := true, recurses := true, apart := false }
def RegisterChecksSaid : Prop := registerChecksRow.holds Try.pinned (OpenSpec.ofChange registerChecksSpec)

/-- ITS FALSE NEIGHBOUR: 'it returns false'. Refute it at one input. -/
def registerChecksWrong : ChangeSpec := { name := "registerChecks", fn := fun _ => fun
  | [d] => { results := [.lit (.bool false)], args := [d] }
  | _ => none }
def RegisterChecksWrongFalsely : Prop := registerChecksRow.holds Try.pinned (OpenSpec.ofChange registerChecksWrong)

/-- 'patchbaylaw15.RegisterContents': WHATEVER THE INPUT: true; the input reads as it did. -/
def registerContentsSpec : ChangeSpec := { name := "registerContents", fn := fun _ => fun
  | [d1, d2, d3] => { results := [.lit (.bool true)], args := [d1, d2, d3] }
  | _ => none }
def registerContentsRow : OpenClaim := { program := "ytnmamcplbeiehaa", sum := "db11f1fe5af947c2ca8c0dca0dd913bdd1bb40f379039b1029be20d18ce898a5", func := "patchbay/patchbaylaw15.RegisterContents", spec := "registerContents", unfollowed := true, recurses := true, loops := true, apart := false }
def RegisterContentsSaid : Prop := registerContentsRow.holds Try.pinned (OpenSpec.ofChange registerContentsSpec)

/-- ITS FALSE NEIGHBOUR: 'it returns false'. Refute it at one input. -/
def registerContentsWrong : ChangeSpec := { name := "registerContents", fn := fun _ => fun
  | [d1, d2, d3] => { results := [.lit (.bool false)], args := [d1, d2, d3] }
  | _ => none }
def RegisterContentsWrongFalsely : Prop := registerContentsRow.holds Try.pinned (OpenSpec.ofChange registerContentsWrong)

/-- 'patchbaylaw15.RegisterOperations': WHATEVER THE INPUT: true; the input reads as it did. -/
def registerOperationsSpec : ChangeSpec := { name := "registerOperations", fn := fun _ => fun
  | [d1, d2, d3] => { results := [.lit (.bool true)], args := [d1, d2, d3] }
  | _ => none }
def registerOperationsRow : OpenClaim := { program := "ytnmamcplbeiehaa", sum := "db11f1fe5af947c2ca8c0dca0dd913bdd1bb40f379039b1029be20d18ce898a5", func := "patchbay/patchbaylaw15.RegisterOperations", spec := "registerOperations", unfollowed := true, recurses := true, loops := true, apart := false }
def RegisterOperationsSaid : Prop := registerOperationsRow.holds Try.pinned (OpenSpec.ofChange registerOperationsSpec)

/-- ITS FALSE NEIGHBOUR: 'it returns false'. Refute it at one input. -/
def registerOperationsWrong : ChangeSpec := { name := "registerOperations", fn := fun _ => fun
  | [d1, d2, d3] => { results := [.lit (.bool false)], args := [d1, d2, d3] }
  | _ => none }
def RegisterOperationsWrongFalsely : Prop := registerOperationsRow.holds Try.pinned (OpenSpec.ofChange registerOperationsWrong)

/-- 'patchbaylaw15.RegisterRuns': WHATEVER THE INPUT: true; the input reads as it did. -/
def registerRunsSpec : ChangeSpec := { name := "registerRuns", fn := fun _ => fun
  | [d1, d2, d3] => { results := [.lit (.bool true)], args := [d1, d2, d3] }
  | _ => none }
def registerRunsRow : OpenClaim := { program := "ytnmamcplbeiehaa", sum := "db11f1fe5af947c2ca8c0dca0dd913bdd1bb40f379039b1029be20d18ce898a5", func := "patchbay/patchbaylaw15.RegisterRuns", spec := "registerRuns", unfollowed := true, recurses := true, loops := true, apart := false }
def RegisterRunsSaid : Prop := registerRunsRow.holds Try.pinned (OpenSpec.ofChange registerRunsSpec)

/-- ITS FALSE NEIGHBOUR: 'it returns false'. Refute it at one input. -/
def registerRunsWrong : ChangeSpec := { name := "registerRuns", fn := fun _ => fun
  | [d1, d2, d3] => { results := [.lit (.bool false)], args := [d1, d2, d3] }
  | _ => none }
def RegisterRunsWrongFalsely : Prop := registerRunsRow.holds Try.pinned (OpenSpec.ofChange registerRunsWrong)

/-- 'patchbaylaw15.RegisterFresh': WHATEVER THE INPUT: true; the input reads as it did. -/
def registerFreshSpec : ChangeSpec := { name := "registerFresh", fn := fun _ => fun
  | [d1, d2, d3] => { results := [.lit (.bool true)], args := [d1, d2, d3] }
  | _ => none }
def registerFreshRow : OpenClaim := { program := "ytnmamcplbeiehaa", sum := "db11f1fe5af947c2ca8c0dca0dd913bdd1bb40f379039b1029be20d18ce898a5", func := "patchbay/patchbaylaw15.RegisterFresh", spec := "registerFresh", unfollowed := true, recurses := true, loops := true, apart := false }
def RegisterFreshSaid : Prop := registerFreshRow.holds Try.pinned (OpenSpec.ofChange registerFreshSpec)

/-- ITS FALSE NEIGHBOUR: 'it returns false'. Refute it at one input. -/
def registerFreshWrong : ChangeSpec := { name := "registerFresh", fn := fun _ => fun
  | [d1, d2, d3] => { results := [.lit (.bool false)], args := [d1, d2, d3] }
  | _ => none }
def RegisterFreshWrongFalsely : Prop := registerFreshRow.holds Try.pinned (OpenSpec.ofChange registerFreshWrong)

/- THE SECOND FORM. 'bulk': how many values and letters a reading holds, each counted each time it is reached (what is shared counts as often as it is met; a slice's spare places count too). A statement '..UptoSaid' is the law's where the arguments, and the package variables that the reading takes, are together of bulk at most 1048576: NARROWER than '..Said'. Prove '..Said' where nothing that the law and all that it calls make is longer than what came in: it says more and counts as full. Else prove '..UptoSaid'. A law counts once. -/
mutual
def uptoBulk {H : Type} : DataW H → Nat
  | .lit (.string bytes) => bytes.length + 1
  | .lit _ => 1
  | .nil => 1
  | .ptr d => uptoBulk d + 1
  | .slice elems spare => uptoBulkAll elems + uptoBulkAll spare + 1
  | .agg parts => uptoBulkAll parts + 1
  | .iface _ d => uptoBulk d + 1
  | .map entries => uptoBulkEntries entries + 1
  | .held _ => 1
def uptoBulkAll {H : Type} : List (DataW H) → Nat
  | [] => 0
  | d :: r => uptoBulk d + uptoBulkAll r
def uptoBulkEntries {H : Type} : List (Lit × DataW H) → Nat
  | [] => 0
  | x :: r => uptoBulkEntry x + uptoBulkEntries r
def uptoBulkEntry {H : Type} : Lit × DataW H → Nat
  | (.string bytes, d) => bytes.length + uptoBulk d + 1
  | (_, d) => uptoBulk d + 1
 end
def uptoSmall : (H : Type) → List (DataW H) → Bool := fun _ ds => decide (uptoBulkAll ds ≤ 1048576)
def OpenSpec.upto (s : _root_.Go.ChangeSpec) : _root_.Go.OpenSpec := { _root_.Go.OpenSpec.ofChange s with cond := some uptoSmall }

/-- 'patchbaylaw09.LpmtrieOrder', WHERE WHAT IT READS IS OF BULK AT MOST 1048576: true; the input reads as it did. -/
def lpmtrieOrderUptoRow : OpenClaim := { program := "ytnmamcplbeiehaa", sum := "db11f1fe5af947c2ca8c0dca0dd913bdd1bb40f379039b1029be20d18ce898a5", func := "patchbay/patchbaylaw09.LpmtrieOrder", spec := "lpmtrieOrder", unfollowed := true, recurses := true, apart := false, narrowed := true }
def LpmtrieOrderUptoSaid : Prop := lpmtrieOrderUptoRow.holds Try.pinned (OpenSpec.upto lpmtrieOrderSpec)

/-- 'patchbaylaw09.LpmtrieRuns', WHERE WHAT IT READS IS OF BULK AT MOST 1048576: true; the input reads as it did. -/
def lpmtrieRunsUptoRow : OpenClaim := { program := "ytnmamcplbeiehaa", sum := "db11f1fe5af947c2ca8c0dca0dd913bdd1bb40f379039b1029be20d18ce898a5", func := "patchbay/patchbaylaw09.LpmtrieRuns", spec := "lpmtrieRuns", unfollowed := true, recurses := true, apart := false, narrowed := true }
def LpmtrieRunsUptoSaid : Prop := lpmtrieRunsUptoRow.holds Try.pinned (OpenSpec.upto lpmtrieRunsSpec)

/-- 'patchbaylaw09.LpmtrieLookups', WHERE WHAT IT READS IS OF BULK AT MOST 1048576: true; the input reads as it did. -/
def lpmtrieLookupsUptoRow : OpenClaim := { program := "ytnmamcplbeiehaa", sum := "db11f1fe5af947c2ca8c0dca0dd913bdd1bb40f379039b1029be20d18ce898a5", func := "patchbay/patchbaylaw09.LpmtrieLookups", spec := "lpmtrieLookups", unfollowed := true, recurses := true, apart := false, narrowed := true }
def LpmtrieLookupsUptoSaid : Prop := lpmtrieLookupsUptoRow.holds Try.pinned (OpenSpec.upto lpmtrieLookupsSpec)

/-- 'patchbaylaw09.LpmtrieStops', WHERE WHAT IT READS IS OF BULK AT MOST 1048576: true; the input reads as it did. -/
def lpmtrieStopsUptoRow : OpenClaim := { program := "ytnmamcplbeiehaa", sum := "db11f1fe5af947c2ca8c0dca0dd913bdd1bb40f379039b1029be20d18ce898a5", func := "patchbay/patchbaylaw09.LpmtrieStops", spec := "lpmtrieStops", unfollowed := true, recurses := true, apart := false, narrowed := true }
def LpmtrieStopsUptoSaid : Prop := lpmtrieStopsUptoRow.holds Try.pinned (OpenSpec.upto lpmtrieStopsSpec)

/-- 'patchbaylaw09.LpmtrieNil', WHERE WHAT IT READS IS OF BULK AT MOST 1048576: true; the input reads as it did. -/
def lpmtrieNilUptoRow : OpenClaim := { program := "ytnmamcplbeiehaa", sum := "db11f1fe5af947c2ca8c0dca0dd913bdd1bb40f379039b1029be20d18ce898a5", func := "patchbay/patchbaylaw09.LpmtrieNil", spec := "lpmtrieNil", unfollowed := true, recurses := true, apart := false, narrowed := true }
def LpmtrieNilUptoSaid : Prop := lpmtrieNilUptoRow.holds Try.pinned (OpenSpec.upto lpmtrieNilSpec)

/-- 'patchbaylaw15.RegisterChecks', WHERE WHAT IT READS IS OF BULK AT MOST 1048576: true; the input reads as it did. -/
def registerChecksUptoRow : OpenClaim := { program := "ytnmamcplbeiehaa", sum := "db11f1fe5af947c2ca8c0dca0dd913bdd1bb40f379039b1029be20d18ce898a5", func := "patchbay/patchbaylaw15.RegisterChecks", spec := "registerChecks", unfollowed := true, recurses := true, apart := false, narrowed := true }
def RegisterChecksUptoSaid : Prop := registerChecksUptoRow.holds Try.pinned (OpenSpec.upto registerChecksSpec)

/-- 'patchbaylaw15.RegisterContents', WHERE WHAT IT READS IS OF BULK AT MOST 1048576: true; the input reads as it did. -/
def registerContentsUptoRow : OpenClaim := { program := "ytnmamcplbeiehaa", sum := "db11f1fe5af947c2ca8c0dca0dd913bdd1bb40f379039b1029be20d18ce898a5", func := "patchbay/patchbaylaw15.RegisterContents", spec := "registerContents", unfollowed := true, recurses := true, loops := true, apart := false, narrowed := true }
def RegisterContentsUptoSaid : Prop := registerContentsUptoRow.holds Try.pinned (OpenSpec.upto registerContentsSpec)

/-- 'patchbaylaw15.RegisterOperations', WHERE WHAT IT READS IS OF BULK AT MOST 1048576: true; the input reads as it did. -/
def registerOperationsUptoRow : OpenClaim := { program := "ytnmamcplbeiehaa", sum := "db11f1fe5af947c2ca8c0dca0dd913bdd1bb40f379039b1029be20d18ce898a5", func := "patchbay/patchbaylaw15.RegisterOperations", spec := "registerOperations", unfollowed := true, recurses := true, loops := true, apart := false, narrowed := true }
def RegisterOperationsUptoSaid : Prop := registerOperationsUptoRow.holds Try.pinned (OpenSpec.upto registerOperationsSpec)

/-- 'patchbaylaw15.RegisterRuns', WHERE WHAT IT READS IS OF BULK AT MOST 1048576: true; the input reads as it did. -/
def registerRunsUptoRow : OpenClaim := { program := "ytnmamcplbeiehaa", sum := "db11f1fe5af947c2ca8c0dca0dd913bdd1bb40f379039b1029be20d18ce898a5", func := "patchbay/patchbaylaw15.RegisterRuns", spec := "registerRuns", unfollowed := true, recurses := true, loops := true, apart := false, narrowed := true }
def RegisterRunsUptoSaid : Prop := registerRunsUptoRow.holds Try.pinned (OpenSpec.upto registerRunsSpec)

/-- 'patchbaylaw15.RegisterFresh', WHERE WHAT IT READS IS OF BULK AT MOST 1048576: true; the input reads as it did. -/
def registerFreshUptoRow : OpenClaim := { program := "ytnmamcplbeiehaa", sum := "db11f1fe5af947c2ca8c0dca0dd913bdd1bb40f379039b1029be20d18ce898a5", func := "patchbay/patchbaylaw15.RegisterFresh", spec := "registerFresh", unfollowed := true, recurses := true, loops := true, apart := false, narrowed := true }
def RegisterFreshUptoSaid : Prop := registerFreshUptoRow.holds Try.pinned (OpenSpec.upto registerFreshSpec)

end Rows
end Go.Proofs.Ytnmamcplbeiehaa
