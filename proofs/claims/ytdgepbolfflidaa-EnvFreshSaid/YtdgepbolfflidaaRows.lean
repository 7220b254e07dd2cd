/-
  NARROWER THAN 'FOR EVERY INPUT', by the rows' own cells (each row's printed sentence says how): EnvChecks: loops · EnvOperations: loops · EnvRuns: loops · EnvIsolated: loops · EnvFresh: loops.
  DERIVED. THE GIVEN ROWS OF THIS SEAT. 11 by the template 'for every input the law returns true; each argument reads behind the call as it read before'; 0 by the template 'total and deterministic' (their statements: YtdgepbolfflidaaTotals.lean).
  GIVEN WITH THE SEED: the statements are not yours to turn. If you find one false, say at which input.
  Laid BY PROGRAM, IN A SANDBOX (cutbox-rows.mjs): the forced cells as the released guide's own fill.sh prints them over the translation 0db059027b1935fb… (all of the seat's roots in one cut). By AI agents, Wed Nov 11 2026. No macro, syntax, notation, axiom, sorry.
-/
import Derived.Test.YtdgepbolfflidaaChecked
import GoSem.Claim
import GoSem.ClaimJoined
import GoSem.ClaimMapViews
import Derived.JoinedTies
import Derived.KernelRfl
namespace Go.Proofs.Ytdgepbolfflidaa
/- THE CELL 'sum', in the pinned program and in every row, IS THE sha256 OF THE DUMP (.gsa) THAT YtdgepbolfflidaaProg.lean LOADS. Nothing in Lean hashes anything: it is a label: what it is worth is what the hold of that sum in a sandbox is worth. -/
noncomputable def Try.pinned : Pinned := { name := "ytdgepbolfflidaa", sum := "0db059027b1935fb3830c3ac74727b6b0e3d06f638058043da7ba8170d1b0750", checked := Try.checked }
namespace Rows
def none {H : Type} : Left H := { results := [], args := [] }

/-- 'patchbaylaw11.HeaderChecks': WHATEVER THE INPUT: true; the input reads as it did. -/
def headerChecksSpec : ChangeSpec := { name := "headerChecks", fn := fun _ => fun
  | [d1, d2] => { results := [.lit (.bool true)], args := [d1, d2] }
  | _ => none }
def headerChecksRow : OpenClaim := { program := "ytdgepbolfflidaa", sum := "0db059027b1935fb3830c3ac74727b6b0e3d06f638058043da7ba8170d1b0750", func := "patchbay/patchbaylaw11.HeaderChecks", spec := "headerChecks", unfollowed := true, recurses := true, apart := false }
def HeaderChecksSaid : Prop := headerChecksRow.holds Try.pinned (OpenSpec.ofChange headerChecksSpec)

/-- ITS FALSE NEIGHBOUR: 'it returns false'. Refute it at one input. -/
def headerChecksWrong : ChangeSpec := { name := "headerChecks", fn := fun _ => fun
  | [d1, d2] => { results := [.lit (.bool false)], args := [d1, d2] }
  | _ => none }
def HeaderChecksWrongFalsely : Prop := headerChecksRow.holds Try.pinned (OpenSpec.ofChange headerChecksWrong)

/-- 'patchbaylaw11.HeaderReads': WHATEVER THE INPUT: true; the input reads as it did. -/
def headerReadsSpec : ChangeSpec := { name := "headerReads", fn := fun _ => fun
  | [d1, d2, d3] => { results := [.lit (.bool true)], args := [d1, d2, d3] }
  | _ => none }
def headerReadsRow : OpenClaim := { program := "ytdgepbolfflidaa", sum := "0db059027b1935fb3830c3ac74727b6b0e3d06f638058043da7ba8170d1b0750", func := "patchbay/patchbaylaw11.HeaderReads", spec := "headerReads", unfollowed := true, recurses := true, apart := false }
def HeaderReadsSaid : Prop := headerReadsRow.holds Try.pinned (OpenSpec.ofChange headerReadsSpec)

/-- ITS FALSE NEIGHBOUR: 'it returns false'. Refute it at one input. -/
def headerReadsWrong : ChangeSpec := { name := "headerReads", fn := fun _ => fun
  | [d1, d2, d3] => { results := [.lit (.bool false)], args := [d1, d2, d3] }
  | _ => none }
def HeaderReadsWrongFalsely : Prop := headerReadsRow.holds Try.pinned (OpenSpec.ofChange headerReadsWrong)

/-- 'patchbaylaw12.EnvChecks': WHATEVER THE INPUT: true; the input reads as it did. -/
def envChecksSpec : ChangeSpec := { name := "envChecks", fn := fun _ => fun
  | [d1, d2, d3] => { results := [.lit (.bool true)], args := [d1, d2, d3] }
  | _ => none }
def envChecksRow : OpenClaim := { program := "ytdgepbolfflidaa", sum := "0db059027b1935fb3830c3ac74727b6b0e3d06f638058043da7ba8170d1b0750", func := "patchbay/patchbaylaw12.EnvChecks", spec := "envChecks", unfollowed := true, recurses := true, loops := true, apart := false }
def EnvChecksSaid : Prop := envChecksRow.holds Try.pinned (OpenSpec.ofChange envChecksSpec)

/-- ITS FALSE NEIGHBOUR: 'it returns false'. Refute it at one input. -/
def envChecksWrong : ChangeSpec := { name := "envChecks", fn := fun _ => fun
  | [d1, d2, d3] => { results := [.lit (.bool false)], args := [d1, d2, d3] }
  | _ => none }
def EnvChecksWrongFalsely : Prop := envChecksRow.holds Try.pinned (OpenSpec.ofChange envChecksWrong)

/-- 'patchbaylaw12.EnvOperations': WHATEVER THE INPUT: true; the input reads as it did. -/
def envOperationsSpec : ChangeSpec := { name := "envOperations", fn := fun _ => fun
  | [d1, d2, d3] => { results := [.lit (.bool true)], args := [d1, d2, d3] }
  | _ => none }
def envOperationsRow : OpenClaim := { program := "ytdgepbolfflidaa", sum := "0db059027b1935fb3830c3ac74727b6b0e3d06f638058043da7ba8170d1b0750", func := "patchbay/patchbaylaw12.EnvOperations", spec := "envOperations", unfollowed := true, recurses := true, loops := true, apart := false }
def EnvOperationsSaid : Prop := envOperationsRow.holds Try.pinned (OpenSpec.ofChange envOperationsSpec)

/-- ITS FALSE NEIGHBOUR: 'it returns false'. Refute it at one input. -/
def envOperationsWrong : ChangeSpec := { name := "envOperations", fn := fun _ => fun
  | [d1, d2, d3] => { results := [.lit (.bool false)], args := [d1, d2, d3] }
  | _ => none }
def EnvOperationsWrongFalsely : Prop := envOperationsRow.holds Try.pinned (OpenSpec.ofChange envOperationsWrong)

/-- 'patchbaylaw12.EnvRuns': WHATEVER THE INPUT: true; the input reads as it did. -/
def envRunsSpec : ChangeSpec := { name := "envRuns", fn := fun _ => fun
  | [d1, d2] => { results := [.lit (.bool true)], args := [d1, d2] }
  | _ => none }
def envRunsRow : OpenClaim := { program := "ytdgepbolfflidaa", sum := "0db059027b1935fb3830c3ac74727b6b0e3d06f638058043da7ba8170d1b0750", func := "patchbay/patchbaylaw12.EnvRuns", spec := "envRuns", unfollowed := true, recurses := true, loops := true, apart := false }
def EnvRunsSaid : Prop := envRunsRow.holds Try.pinned (OpenSpec.ofChange envRunsSpec)

/-- ITS FALSE NEIGHBOUR: 'it returns false'. Refute it at one input. -/
def envRunsWrong : ChangeSpec := { name := "envRuns", fn := fun _ => fun
  | [d1, d2] => { results := [.lit (.bool false)], args := [d1, d2] }
  | _ => none }
def EnvRunsWrongFalsely : Prop := envRunsRow.holds Try.pinned (OpenSpec.ofChange envRunsWrong)

/-- 'patchbaylaw12.EnvIsolated': WHATEVER THE INPUT: true; the input reads as it did. -/
def envIsolatedSpec : ChangeSpec := { name := "envIsolated", fn := fun _ => fun
  | [d1, d2, d3] => { results := [.lit (.bool true)], args := [d1, d2, d3] }
  | _ => none }
def envIsolatedRow : OpenClaim := { program := "ytdgepbolfflidaa", sum := "0db059027b1935fb3830c3ac74727b6b0e3d06f638058043da7ba8170d1b0750", func := "patchbay/patchbaylaw12.EnvIsolated", spec := "envIsolated", unfollowed := true, recurses := true, loops := true, apart := false }
def EnvIsolatedSaid : Prop := envIsolatedRow.holds Try.pinned (OpenSpec.ofChange envIsolatedSpec)

/-- ITS FALSE NEIGHBOUR: 'it returns false'. Refute it at one input. -/
def envIsolatedWrong : ChangeSpec := { name := "envIsolated", fn := fun _ => fun
  | [d1, d2, d3] => { results := [.lit (.bool false)], args := [d1, d2, d3] }
  | _ => none }
def EnvIsolatedWrongFalsely : Prop := envIsolatedRow.holds Try.pinned (OpenSpec.ofChange envIsolatedWrong)

/-- 'patchbaylaw12.EnvEqual': WHATEVER THE INPUT: true; the input reads as it did. -/
def envEqualSpec : ChangeSpec := { name := "envEqual", fn := fun _ => fun
  | [d1, d2] => { results := [.lit (.bool true)], args := [d1, d2] }
  | _ => none }
def envEqualRow : OpenClaim := { program := "ytdgepbolfflidaa", sum := "0db059027b1935fb3830c3ac74727b6b0e3d06f638058043da7ba8170d1b0750", func := "patchbay/patchbaylaw12.EnvEqual", spec := "envEqual", unfollowed := true, recurses := true, apart := false }
def EnvEqualSaid : Prop := envEqualRow.holds Try.pinned (OpenSpec.ofChange envEqualSpec)

/-- ITS FALSE NEIGHBOUR: 'it returns false'. Refute it at one input. -/
def envEqualWrong : ChangeSpec := { name := "envEqual", fn := fun _ => fun
  | [d1, d2] => { results := [.lit (.bool false)], args := [d1, d2] }
  | _ => none }
def EnvEqualWrongFalsely : Prop := envEqualRow.holds Try.pinned (OpenSpec.ofChange envEqualWrong)

/-- 'patchbaylaw12.EnvFresh': WHATEVER THE INPUT: true; the input reads as it did. -/
def envFreshSpec : ChangeSpec := { name := "envFresh", fn := fun _ => fun
  | [d1, d2, d3] => { results := [.lit (.bool true)], args := [d1, d2, d3] }
  | _ => none }
def envFreshRow : OpenClaim := { program := "ytdgepbolfflidaa", sum := "0db059027b1935fb3830c3ac74727b6b0e3d06f638058043da7ba8170d1b0750", func := "patchbay/patchbaylaw12.EnvFresh", spec := "envFresh", unfollowed := true, recurses := true, loops := true, apart := false }
def EnvFreshSaid : Prop := envFreshRow.holds Try.pinned (OpenSpec.ofChange envFreshSpec)

/-- ITS FALSE NEIGHBOUR: 'it returns false'. Refute it at one input. -/
def envFreshWrong : ChangeSpec := { name := "envFresh", fn := fun _ => fun
  | [d1, d2, d3] => { results := [.lit (.bool false)], args := [d1, d2, d3] }
  | _ => none }
def EnvFreshWrongFalsely : Prop := envFreshRow.holds Try.pinned (OpenSpec.ofChange envFreshWrong)

/-- 'patchbaylaw11.HeaderRoundTrip': WHATEVER THE INPUT: true; the input reads as it did. -/
def headerRoundTripSpec : ChangeSpec := { name := "headerRoundTrip", fn := fun _ => fun
  | [d1, d2, d3] => { results := [.lit (.bool true)], args := [d1, d2, d3] }
  | _ => none }
def headerRoundTripRow : OpenClaim := { program := "ytdgepbolfflidaa", sum := "0db059027b1935fb3830c3ac74727b6b0e3d06f638058043da7ba8170d1b0750", func := "patchbay/patchbaylaw11.HeaderRoundTrip", spec := "headerRoundTrip", unfollowed := true, recurses := true, apart := false }
def HeaderRoundTripSaid : Prop := headerRoundTripRow.holds Try.pinned (OpenSpec.ofChange headerRoundTripSpec)

/-- ITS FALSE NEIGHBOUR: 'it returns false'. Refute it at one input. -/
def headerRoundTripWrong : ChangeSpec := { name := "headerRoundTrip", fn := fun _ => fun
  | [d1, d2, d3] => { results := [.lit (.bool false)], args := [d1, d2, d3] }
  | _ => none }
def HeaderRoundTripWrongFalsely : Prop := headerRoundTripRow.holds Try.pinned (OpenSpec.ofChange headerRoundTripWrong)

/-- 'patchbaylaw11.HeaderNil': WHATEVER THE INPUT: true; the input reads as it did. -/
def headerNilSpec : ChangeSpec := { name := "headerNil", fn := fun _ => fun
  | [d1, d2] => { results := [.lit (.bool true)], args := [d1, d2] }
  | _ => none }
def headerNilRow : OpenClaim := { program := "ytdgepbolfflidaa", sum := "0db059027b1935fb3830c3ac74727b6b0e3d06f638058043da7ba8170d1b0750", func := "patchbay/patchbaylaw11.HeaderNil", spec := "headerNil", unfollowed := true, recurses := true, apart := false }
def HeaderNilSaid : Prop := headerNilRow.holds Try.pinned (OpenSpec.ofChange headerNilSpec)

/-- ITS FALSE NEIGHBOUR: 'it returns false'. Refute it at one input. -/
def headerNilWrong : ChangeSpec := { name := "headerNil", fn := fun _ => fun
  | [d1, d2] => { results := [.lit (.bool false)], args := [d1, d2] }
  | _ => none }
def HeaderNilWrongFalsely : Prop := headerNilRow.holds Try.pinned (OpenSpec.ofChange headerNilWrong)

/-- 'patchbaylaw11.HeaderWrites': WHATEVER THE INPUT: true; the input reads as it did. -/
def headerWritesSpec : ChangeSpec := { name := "headerWrites", fn := fun _ => fun
  | [d1, d2, d3] => { results := [.lit (.bool true)], args := [d1, d2, d3] }
  | _ => none }
def headerWritesRow : OpenClaim := { program := "ytdgepbolfflidaa", sum := "0db059027b1935fb3830c3ac74727b6b0e3d06f638058043da7ba8170d1b0750", func := "patchbay/patchbaylaw11.HeaderWrites", spec := "headerWrites", unfollowed := true, recurses := true, apart := false }
def HeaderWritesSaid : Prop := headerWritesRow.holds Try.pinned (OpenSpec.ofChange headerWritesSpec)

/-- ITS FALSE NEIGHBOUR: 'it returns false'. Refute it at one input. -/
def headerWritesWrong : ChangeSpec := { name := "headerWrites", fn := fun _ => fun
  | [d1, d2, d3] => { results := [.lit (.bool false)], args := [d1, d2, d3] }
  | _ => none }
def HeaderWritesWrongFalsely : Prop := headerWritesRow.holds Try.pinned (OpenSpec.ofChange headerWritesWrong)

/- THE SECOND FORM. 'bulk': how many values and letters a reading holds, each counted each time it is reached (what is shared counts as often as it is met; a slice's spare places count too). A statement '..UptoSaid' is the law's where the arguments, and the package variables that the reading takes, are together of bulk at most 1048576: NARROWER than '..Said'. Prove '..Said' where nothing that the law and all that it calls make is longer than what came in: it says more and counts as full. Else prove '..UptoSaid'. A law counts once. -/
mutual
def uptoBulk {H : Type} : DataW H → Nat
  | .lit (.string bytes) => bytes.length + 1
  | .lit _ => 1
  | .nil => 1
  | .ptr d => uptoBulk d + 1
  | .slice elems spare => uptoBulkAll elems + uptoBulkAll spare + 1
  | .agg parts => uptoBulkAll parts + 1
  | .iface _ d => uptoBulk d + 1
  | .map entries => uptoBulkEntries entries + 1
  | .held _ => 1
def uptoBulkAll {H : Type} : List (DataW H) → Nat
  | [] => 0
  | d :: r => uptoBulk d + uptoBulkAll r
def uptoBulkEntries {H : Type} : List (Lit × DataW H) → Nat
  | [] => 0
  | x :: r => uptoBulkEntry x + uptoBulkEntries r
def uptoBulkEntry {H : Type} : Lit × DataW H → Nat
  | (.string bytes, d) => bytes.length + uptoBulk d + 1
  | (_, d) => uptoBulk d + 1
 end
def uptoSmall : (H : Type) → List (DataW H) → Bool := fun _ ds => decide (uptoBulkAll ds ≤ 1048576)
def OpenSpec.upto (s : _root_.Go.ChangeSpec) : _root_.Go.OpenSpec := { _root_.Go.OpenSpec.ofChange s with cond := some uptoSmall }

/-- 'patchbaylaw11.HeaderChecks', WHERE WHAT IT READS IS OF BULK AT MOST 1048576: true; the input reads as it did. -/
def headerChecksUptoRow : OpenClaim := { program := "ytdgepbolfflidaa", sum := "0db059027b1935fb3830c3ac74727b6b0e3d06f638058043da7ba8170d1b0750", func := "patchbay/patchbaylaw11.HeaderChecks", spec := "headerChecks", unfollowed := true, recurses := true, apart := false, narrowed := true }
def HeaderChecksUptoSaid : Prop := headerChecksUptoRow.holds Try.pinned (OpenSpec.upto headerChecksSpec)

/-- 'patchbaylaw11.HeaderReads', WHERE WHAT IT READS IS OF BULK AT MOST 1048576: true; the input reads as it did. -/
def headerReadsUptoRow : OpenClaim := { program := "ytdgepbolfflidaa", sum := "0db059027b1935fb3830c3ac74727b6b0e3d06f638058043da7ba8170d1b0750", func := "patchbay/patchbaylaw11.HeaderReads", spec := "headerReads", unfollowed := true, recurses := true, apart := false, narrowed := true }
def HeaderReadsUptoSaid : Prop := headerReadsUptoRow.holds Try.pinned (OpenSpec.upto headerReadsSpec)

/-- 'patchbaylaw12.EnvChecks', WHERE WHAT IT READS IS OF BULK AT MOST 1048576: true; the input reads as it did. -/
def envChecksUptoRow : OpenClaim := { program := "ytdgepbolfflidaa", sum := "0db059027b1935fb3830c3ac74727b6b0e3d06f638058043da7ba8170d1b0750", func := "patchbay/patchbaylaw12.EnvChecks", spec := "envChecks", unfollowed := true, recurses := true, loops := true, apart := false, narrowed := true }
def EnvChecksUptoSaid : Prop := envChecksUptoRow.holds Try.pinned (OpenSpec.upto envChecksSpec)

/-- 'patchbaylaw12.EnvOperations', WHERE WHAT IT READS IS OF BULK AT MOST 1048576: true; the input reads as it did. -/
def envOperationsUptoRow : OpenClaim := { program := "ytdgepbolfflidaa", sum := "0db059027b1935fb3830c3ac74727b6b0e3d06f638058043da7ba8170d1b0750", func := "patchbay/patchbaylaw12.EnvOperations", spec := "envOperations", unfollowed := true, recurses := true, loops := true, apart := false, narrowed := true }
def EnvOperationsUptoSaid : Prop := envOperationsUptoRow.holds Try.pinned (OpenSpec.upto envOperationsSpec)

/-- 'patchbaylaw12.EnvRuns', WHERE WHAT IT READS IS OF BULK AT MOST 1048576: true; the input reads as it did. -/
def envRunsUptoRow : OpenClaim := { program := "ytdgepbolfflidaa", sum := "0db059027b1935fb3830c3ac74727b6b0e3d06f638058043da7ba8170d1b0750", func := "patchbay/patchbaylaw12.EnvRuns", spec := "envRuns", unfollowed := true, recurses := true, loops := true, apart := false, narrowed := true }
def EnvRunsUptoSaid : Prop := envRunsUptoRow.holds Try.pinned (OpenSpec.upto envRunsSpec)

/-- 'patchbaylaw12.EnvIsolated', WHERE WHAT IT READS IS OF BULK AT MOST 1048576: true; the input reads as it did. -/
def envIsolatedUptoRow : OpenClaim := { program := "ytdgepbolfflidaa", sum := "0db059027b1935fb3830c3ac74727b6b0e3d06f638058043da7ba8170d1b0750", func := "patchbay/patchbaylaw12.EnvIsolated", spec := "envIsolated", unfollowed := true, recurses := true, loops := true, apart := false, narrowed := true }
def EnvIsolatedUptoSaid : Prop := envIsolatedUptoRow.holds Try.pinned (OpenSpec.upto envIsolatedSpec)

/-- 'patchbaylaw12.EnvEqual', WHERE WHAT IT READS IS OF BULK AT MOST 1048576: true; the input reads as it did. -/
def envEqualUptoRow : OpenClaim := { program := "ytdgepbolfflidaa", sum := "0db059027b1935fb3830c3ac74727b6b0e3d06f638058043da7ba8170d1b0750", func := "patchbay/patchbaylaw12.EnvEqual", spec := "envEqual", unfollowed := true, recurses := true, apart := false, narrowed := true }
def EnvEqualUptoSaid : Prop := envEqualUptoRow.holds Try.pinned (OpenSpec.upto envEqualSpec)

/-- 'patchbaylaw12.EnvFresh', WHERE WHAT IT READS IS OF BULK AT MOST 1048576: true; the input reads as it did. -/
def envFreshUptoRow : OpenClaim := { program := "ytdgepbolfflidaa", sum := "0db059027b1935fb3830c3ac74727b6b0e3d06f638058043da7ba8170d1b0750", func := "patchbay/patchbaylaw12.EnvFresh", spec := "envFresh", unfollowed := true, recurses := true, loops := true, apart := false, narrowed := true }
def EnvFreshUptoSaid : Prop := envFreshUptoRow.holds Try.pinned (OpenSpec.upto envFreshSpec)

/-- 'patchbaylaw11.HeaderRoundTrip', WHERE WHAT IT READS IS OF BULK AT MOST 1048576: true; the input reads as it did. -/
def headerRoundTripUptoRow : OpenClaim := { program := "ytdgepbolfflidaa", sum := "0db059027b1935fb3830c3ac74727b6b0e3d06f638058043da7ba8170d1b0750", func := "patchbay/patchbaylaw11.HeaderRoundTrip", spec := "headerRoundTrip", unfollowed := true, recurses := true, apart := false, narrowed := true }
def HeaderRoundTripUptoSaid : Prop := headerRoundTripUptoRow.holds Try.pinned (OpenSpec.upto headerRoundTripSpec)

/-- 'patchbaylaw11.HeaderNil', WHERE WHAT IT READS IS OF BULK AT MOST 1048576: true; the input reads as it did. -/
def headerNilUptoRow : OpenClaim := { program := "ytdgepbolfflidaa", sum := "0db059027b1935fb3830c3ac74727b6b0e3d06f638058043da7ba8170d1b0750", func := "patchbay/patchbaylaw11.HeaderNil", spec := "headerNil", unfollowed := true, recurses := true, apart := false, narrowed := true }
def HeaderNilUptoSaid : Prop := headerNilUptoRow.holds Try.pinned (OpenSpec.upto headerNilSpec)

/-- 'patchbaylaw11.HeaderWrites', WHERE WHAT IT READS IS OF BULK AT MOST 1048576: true; the input reads as it did. -/
def headerWritesUptoRow : OpenClaim := { program := "ytdgepbolfflidaa", sum := "0db059027b1935fb3830c3ac74727b6b0e3d06f638058043da7ba8170d1b0750", func := "patchbay/patchbaylaw11.HeaderWrites", spec := "headerWrites", unfollowed := true, recurses := true, apart := false, narrowed := true }
def HeaderWritesUptoSaid : Prop := headerWritesUptoRow.holds Try.pinned (OpenSpec.upto headerWritesSpec)

end Rows
end Go.Proofs.Ytdgepbolfflidaa
