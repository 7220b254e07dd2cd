/-
  No cell of these rows narrows 'for every input' (looked for: loops, veiled, ifaces, maps, wideKeys, modest, calm, conditions, laid).
  DERIVED. THE GIVEN ROWS OF THIS SEAT. 5 by the template 'for every input the law returns true; each argument reads behind the call as it read before'; 0 by the template 'total and deterministic' (their statements: YteefchbpojcklaaTotals.lean).
  GIVEN WITH THE SEED: the statements are not yours to turn. If you find one false, say at which input.
  Laid BY PROGRAM, IN A SANDBOX (cutbox-rows.mjs): the forced cells as the released guide's own fill.sh prints them over the translation df7666aef411349e… (all of the seat's roots in one cut). By AI agents, Wed Nov 11 2026. No macro, syntax, notation, axiom, sorry.
-/
import Derived.Test.YteefchbpojcklaaChecked
import GoSem.Claim
import GoSem.ClaimJoined
import GoSem.ClaimMapViews
import Derived.JoinedTies
import Derived.KernelRfl
namespace Go.Proofs.Yteefchbpojcklaa
/- THE CELL 'sum', in the pinned program and in every row, IS THE sha256 OF THE DUMP (.gsa) THAT YteefchbpojcklaaProg.lean LOADS. Nothing in Lean hashes anything: it is a label: what it is worth is what the hold of that sum in a sandbox is worth. -/
noncomputable def Try.pinned : Pinned := { name := "yteefchbpojcklaa", sum := "df7666aef411349ea6247224fbf0da34b7172ed084627ac9d50cfc32b178b558", checked := Try.checked }
namespace Rows
def none {H : Type} : Left H := { results := [], args := [] }

/-- 'patchbaylaw09.LpmtrieOrder': WHATEVER THE INPUT: true; the input reads as it did. -/
def lpmtrieOrderSpec : ChangeSpec := { name := "lpmtrieOrder", fn := fun _ => fun
  | [d1, d2, d3] => { results := [.lit (.bool true)], args := [d1, d2, d3] }
  | _ => none }
def lpmtrieOrderRow : OpenClaim := { program := "yteefchbpojcklaa", sum := "df7666aef411349ea6247224fbf0da34b7172ed084627ac9d50cfc32b178b558", func := "patchbay/patchbaylaw09.LpmtrieOrder", spec := "lpmtrieOrder", unfollowed := true, recurses := true, apart := false }
def LpmtrieOrderSaid : Prop := lpmtrieOrderRow.holds Try.pinned (OpenSpec.ofChange lpmtrieOrderSpec)

/-- ITS FALSE NEIGHBOUR: 'it returns false'. Refute it at one input. -/
def lpmtrieOrderWrong : ChangeSpec := { name := "lpmtrieOrder", fn := fun _ => fun
  | [d1, d2, d3] => { results := [.lit (.bool false)], args := [d1, d2, d3] }
  | _ => none }
def LpmtrieOrderWrongFalsely : Prop := lpmtrieOrderRow.holds Try.pinned (OpenSpec.ofChange lpmtrieOrderWrong)

/-- 'patchbaylaw09.LpmtrieRuns': WHATEVER THE INPUT: true; the input reads as it did. -/
def lpmtrieRunsSpec : ChangeSpec := { name := "lpmtrieRuns", fn := fun _ => fun
  | [d1, d2] => { results := [.lit (.bool true)], args := [d1, d2] }
  | _ => none }
def lpmtrieRunsRow : OpenClaim := { program := "yteefchbpojcklaa", sum := "df7666aef411349ea6247224fbf0da34b7172ed084627ac9d50cfc32b178b558", func := "patchbay/patchbaylaw09.LpmtrieRuns", spec := "lpmtrieRuns", unfollowed := true, recurses := true, apart := false }
def LpmtrieRunsSaid : Prop := lpmtrieRunsRow.holds Try.pinned (OpenSpec.ofChange lpmtrieRunsSpec)

/-- ITS FALSE NEIGHBOUR: 'it returns false'. Refute it at one input. -/
def lpmtrieRunsWrong : ChangeSpec := { name := "lpmtrieRuns", fn := fun _ => fun
  | [d1, d2] => { results := [.lit (.bool false)], args := [d1, d2] }
  | _ => none }
def LpmtrieRunsWrongFalsely : Prop := lpmtrieRunsRow.holds Try.pinned (OpenSpec.ofChange lpmtrieRunsWrong)

/-- 'patchbaylaw09.LpmtrieLookups': WHATEVER THE INPUT: true; the input reads as it did. -/
def lpmtrieLookupsSpec : ChangeSpec := { name := "lpmtrieLookups", fn := fun _ => fun
  | [d1, d2, d3] => { results := [.lit (.bool true)], args := [d1, d2, d3] }
  | _ => none }
def lpmtrieLookupsRow : OpenClaim := { program := "yteefchbpojcklaa", sum := "df7666aef411349ea6247224fbf0da34b7172ed084627ac9d50cfc32b178b558", func := "patchbay/patchbaylaw09.LpmtrieLookups", spec := "lpmtrieLookups", unfollowed := true, recurses := true, apart := false }
def LpmtrieLookupsSaid : Prop := lpmtrieLookupsRow.holds Try.pinned (OpenSpec.ofChange lpmtrieLookupsSpec)

/-- ITS FALSE NEIGHBOUR: 'it returns false'. Refute it at one input. -/
def lpmtrieLookupsWrong : ChangeSpec := { name := "lpmtrieLookups", fn := fun _ => fun
  | [d1, d2, d3] => { results := [.lit (.bool false)], args := [d1, d2, d3] }
  | _ => none }
def LpmtrieLookupsWrongFalsely : Prop := lpmtrieLookupsRow.holds Try.pinned (OpenSpec.ofChange lpmtrieLookupsWrong)

/-- 'patchbaylaw09.LpmtrieStops': WHATEVER THE INPUT: true; the input reads as it did. -/
def lpmtrieStopsSpec : ChangeSpec := { name := "lpmtrieStops", fn := fun _ => fun
  | [d1, d2, d3] => { results := [.lit (.bool true)], args := [d1, d2, d3] }
  | _ => none }
def lpmtrieStopsRow : OpenClaim := { program := "yteefchbpojcklaa", sum := "df7666aef411349ea6247224fbf0da34b7172ed084627ac9d50cfc32b178b558", func := "patchbay/patchbaylaw09.LpmtrieStops", spec := "lpmtrieStops", unfollowed := true, recurses := true, apart := false }
def LpmtrieStopsSaid : Prop := lpmtrieStopsRow.holds Try.pinned (OpenSpec.ofChange lpmtrieStopsSpec)

/-- ITS FALSE NEIGHBOUR: 'it returns false'. Refute it at one input. -/
def lpmtrieStopsWrong : ChangeSpec := { name := "lpmtrieStops", fn := fun _ => fun
  | [d1, d2, d3] => { results := [.lit (.bool false)], args := [d1, d2, d3] }
  | _ => none }
def LpmtrieStopsWrongFalsely : Prop := lpmtrieStopsRow.holds Try.pinned (OpenSpec.ofChange lpmtrieStopsWrong)

/-- 'patchbaylaw09.LpmtrieNil': WHATEVER THE INPUT: true; the input reads as it did. -/
def lpmtrieNilSpec : ChangeSpec := { name := "lpmtrieNil", fn := fun _ => fun
  | [d1, d2, d3] => { results := [.lit (.bool true)], args := [d1, d2, d3] }
  | _ => none }
def lpmtrieNilRow : OpenClaim := { program := "yteefchbpojcklaa", sum := "df7666aef411349ea6247224fbf0da34b7172ed084627ac9d50cfc32b178b558", func := "patchbay/patchbaylaw09.LpmtrieNil", spec := "lpmtrieNil", unfollowed := true, recurses := true, apart := false }
def LpmtrieNilSaid : Prop := lpmtrieNilRow.holds Try.pinned (OpenSpec.ofChange lpmtrieNilSpec)

/-- ITS FALSE NEIGHBOUR: 'it returns false'. Refute it at one input. -/
def lpmtrieNilWrong : ChangeSpec := { name := "lpmtrieNil", fn := fun _ => fun
  | [d1, d2, d3] => { results := [.lit (.bool false)], args := [d1, d2, d3] }
  | _ => none }
def LpmtrieNilWrongFalsely : Prop := lpmtrieNilRow.holds Try.pinned (OpenSpec.ofChange lpmtrieNilWrong)

/- THE SECOND FORM. 'bulk': how many values and letters a reading holds, each counted each time it is reached (what is shared counts as often as it is met; a slice's spare places count too). A statement '..UptoSaid' is the law's where the arguments, and the package variables that the reading takes, are together of bulk at most 1048576: NARROWER than '..Said'. Prove '..Said' where nothing that the law and all that it calls make is longer than what came in: it says more and counts as full. Else prove '..UptoSaid'. A law counts once. -/
mutual
def uptoBulk {H : Type} : DataW H → Nat
  | .lit (.string bytes) => bytes.length + 1
  | .lit _ => 1
  | .nil => 1
  | .ptr d => uptoBulk d + 1
  | .slice elems spare => uptoBulkAll elems + uptoBulkAll spare + 1
  | .agg parts => uptoBulkAll parts + 1
  | .iface _ d => uptoBulk d + 1
  | .map entries => uptoBulkEntries entries + 1
  | .held _ => 1
def uptoBulkAll {H : Type} : List (DataW H) → Nat
  | [] => 0
  | d :: r => uptoBulk d + uptoBulkAll r
def uptoBulkEntries {H : Type} : List (Lit × DataW H) → Nat
  | [] => 0
  | x :: r => uptoBulkEntry x + uptoBulkEntries r
def uptoBulkEntry {H : Type} : Lit × DataW H → Nat
  | (.string bytes, d) => bytes.length + uptoBulk d + 1
  | (_, d) => uptoBulk d + 1
 end
def uptoSmall : (H : Type) → List (DataW H) → Bool := fun _ ds => decide (uptoBulkAll ds ≤ 1048576)
def OpenSpec.upto (s : _root_.Go.ChangeSpec) : _root_.Go.OpenSpec := { _root_.Go.OpenSpec.ofChange s with cond := some uptoSmall }

/-- 'patchbaylaw09.LpmtrieOrder', WHERE WHAT IT READS IS OF BULK AT MOST 1048576: true; the input reads as it did. -/
def lpmtrieOrderUptoRow : OpenClaim := { program := "yteefchbpojcklaa", sum := "df7666aef411349ea6247224fbf0da34b7172ed084627ac9d50cfc32b178b558", func := "patchbay/patchbaylaw09.LpmtrieOrder", spec := "lpmtrieOrder", unfollowed := true, recurses := true, apart := false, narrowed := true }
def LpmtrieOrderUptoSaid : Prop := lpmtrieOrderUptoRow.holds Try.pinned (OpenSpec.upto lpmtrieOrderSpec)

/-- 'patchbaylaw09.LpmtrieRuns', WHERE WHAT IT READS IS OF BULK AT MOST 1048576: true; the input reads as it did. -/
def lpmtrieRunsUptoRow : OpenClaim := { program := "yteefchbpojcklaa", sum := "df7666aef411349ea6247224fbf0da34b7172ed084627ac9d50cfc32b178b558", func := "patchbay/patchbaylaw09.LpmtrieRuns", spec := "lpmtrieRuns", unfollowed := true, recurses := true, apart := false, narrowed := true }
def LpmtrieRunsUptoSaid : Prop := lpmtrieRunsUptoRow.holds Try.pinned (OpenSpec.upto lpmtrieRunsSpec)

/-- 'patchbaylaw09.LpmtrieLookups', WHERE WHAT IT READS IS OF BULK AT MOST 1048576: true; the input reads as it did. -/
def lpmtrieLookupsUptoRow : OpenClaim := { program := "yteefchbpojcklaa", sum := "df7666aef411349ea6247224fbf0da34b7172ed084627ac9d50cfc32b178b558", func := "patchbay/patchbaylaw09.LpmtrieLookups", spec := "lpmtrieLookups", unfollowed := true, recurses := true, apart := false, narrowed := true }
def LpmtrieLookupsUptoSaid : Prop := lpmtrieLookupsUptoRow.holds Try.pinned (OpenSpec.upto lpmtrieLookupsSpec)

/-- 'patchbaylaw09.LpmtrieStops', WHERE WHAT IT READS IS OF BULK AT MOST 1048576: true; the input reads as it did. -/
def lpmtrieStopsUptoRow : OpenClaim := { program := "yteefchbpojcklaa", sum := "df7666aef411349ea6247224fbf0da34b7172ed084627ac9d50cfc32b178b558", func := "patchbay/patchbaylaw09.LpmtrieStops", spec := "lpmtrieStops", unfollowed := true, recurses := true, apart := false, narrowed := true }
def LpmtrieStopsUptoSaid : Prop := lpmtrieStopsUptoRow.holds Try.pinned (OpenSpec.upto lpmtrieStopsSpec)

/-- 'patchbaylaw09.LpmtrieNil', WHERE WHAT IT READS IS OF BULK AT MOST 1048576: true; the input reads as it did. -/
def lpmtrieNilUptoRow : OpenClaim := { program := "yteefchbpojcklaa", sum := "df7666aef411349ea6247224fbf0da34b7172ed084627ac9d50cfc32b178b558", func := "patchbay/patchbaylaw09.LpmtrieNil", spec := "lpmtrieNil", unfollowed := true, recurses := true, apart := false, narrowed := true }
def LpmtrieNilUptoSaid : Prop := lpmtrieNilUptoRow.holds Try.pinned (OpenSpec.upto lpmtrieNilSpec)

end Rows
end Go.Proofs.Yteefchbpojcklaa
