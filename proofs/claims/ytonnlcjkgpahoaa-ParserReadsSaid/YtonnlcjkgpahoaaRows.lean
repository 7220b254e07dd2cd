/-
  NARROWER THAN 'FOR EVERY INPUT', by the rows' own cells (each row's printed sentence says how): DeparserMatches: loops · DeparserOmits: loops · DeparserConcatenates: loops · ParserChecks: loops · ParserParses: loops · ParserAppends: loops · ParserStates: loops · DeparserDecodes: loops.
  DERIVED. THE GIVEN ROWS OF THIS SEAT. 9 by the template 'for every input the law returns true; each argument reads behind the call as it read before'; 0 by the template 'total and deterministic' (their statements: YtonnlcjkgpahoaaTotals.lean).
  GIVEN WITH THE SEED: the statements are not yours to turn. If you find one false, say at which input.
  Laid BY PROGRAM, IN A SANDBOX (cutbox-rows.mjs): the forced cells as the released guide's own fill.sh prints them over the translation 8a39b4e52ae93f93… (all of the seat's roots in one cut). By AI agents, Wed Nov 11 2026. No macro, syntax, notation, axiom, sorry.
-/
import Derived.Test.YtonnlcjkgpahoaaChecked
import GoSem.Claim
import GoSem.ClaimJoined
import GoSem.ClaimMapViews
import Derived.JoinedTies
import Derived.KernelRfl
namespace Go.Proofs.Ytonnlcjkgpahoaa
/- THE CELL 'sum', in the pinned program and in every row, IS THE sha256 OF THE DUMP (.gsa) THAT YtonnlcjkgpahoaaProg.lean LOADS. Nothing in Lean hashes anything: it is a label: what it is worth is what the hold of that sum in a sandbox is worth. -/
noncomputable def Try.pinned : Pinned := { name := "ytonnlcjkgpahoaa", sum := "8a39b4e52ae93f930bd7296cda41c62e7d96588e995b7e265aef1a94be6fee25", checked := Try.checked }
namespace Rows
def none {H : Type} : Left H := { results := [], args := [] }

/-- 'patchbaylaw19.DeparserMatches': WHATEVER THE INPUT: true; the input reads as it did. -/
def deparserMatchesSpec : ChangeSpec := { name := "deparserMatches", fn := fun _ => fun
  | [d1, d2] => { results := [.lit (.bool true)], args := [d1, d2] }
  | _ => none }
def deparserMatchesRow : OpenClaim := { program := "ytonnlcjkgpahoaa", sum := "8a39b4e52ae93f930bd7296cda41c62e7d96588e995b7e265aef1a94be6fee25", func := "patchbay/patchbaylaw19.DeparserMatches", spec := "deparserMatches", unfollowed := true, recurses := true, loops := true, apart := false }
def DeparserMatchesSaid : Prop := deparserMatchesRow.holds Try.pinned (OpenSpec.ofChange deparserMatchesSpec)

/-- ITS FALSE NEIGHBOUR: 'it returns false'. Refute it at one input. -/
def deparserMatchesWrong : ChangeSpec := { name := "deparserMatches", fn := fun _ => fun
  | [d1, d2] => { results := [.lit (.bool false)], args := [d1, d2] }
  | _ => none }
def DeparserMatchesWrongFalsely : Prop := deparserMatchesRow.holds Try.pinned (OpenSpec.ofChange deparserMatchesWrong)

/-- 'patchbaylaw19.DeparserOmits': WHATEVER THE INPUT: true; the input reads as it did. -/
def deparserOmitsSpec : ChangeSpec := { name := "deparserOmits", fn := fun _ => fun
  | [d1, d2, d3] => { results := [.lit (.bool true)], args := [d1, d2, d3] }
  | _ => none }
def deparserOmitsRow : OpenClaim := { program := "ytonnlcjkgpahoaa", sum := "8a39b4e52ae93f930bd7296cda41c62e7d96588e995b7e265aef1a94be6fee25", func := "patchbay/patchbaylaw19.DeparserOmits", spec := "deparserOmits", unfollowed := true, recurses := true, loops := true, apart := false }
def DeparserOmitsSaid : Prop := deparserOmitsRow.holds Try.pinned (OpenSpec.ofChange deparserOmitsSpec)

/-- ITS FALSE NEIGHBOUR: 'it returns false'. Refute it at one input. -/
def deparserOmitsWrong : ChangeSpec := { name := "deparserOmits", fn := fun _ => fun
  | [d1, d2, d3] => { results := [.lit (.bool false)], args := [d1, d2, d3] }
  | _ => none }
def DeparserOmitsWrongFalsely : Prop := deparserOmitsRow.holds Try.pinned (OpenSpec.ofChange deparserOmitsWrong)

/-- 'patchbaylaw19.DeparserConcatenates': WHATEVER THE INPUT: true; the input reads as it did. -/
def deparserConcatenatesSpec : ChangeSpec := { name := "deparserConcatenates", fn := fun _ => fun
  | [d1, d2, d3] => { results := [.lit (.bool true)], args := [d1, d2, d3] }
  | _ => none }
def deparserConcatenatesRow : OpenClaim := { program := "ytonnlcjkgpahoaa", sum := "8a39b4e52ae93f930bd7296cda41c62e7d96588e995b7e265aef1a94be6fee25", func := "patchbay/patchbaylaw19.DeparserConcatenates", spec := "deparserConcatenates", unfollowed := true, recurses := true, loops := true, apart := false }
def DeparserConcatenatesSaid : Prop := deparserConcatenatesRow.holds Try.pinned (OpenSpec.ofChange deparserConcatenatesSpec)

/-- ITS FALSE NEIGHBOUR: 'it returns false'. Refute it at one input. -/
def deparserConcatenatesWrong : ChangeSpec := { name := "deparserConcatenates", fn := fun _ => fun
  | [d1, d2, d3] => { results := [.lit (.bool false)], args := [d1, d2, d3] }
  | _ => none }
def DeparserConcatenatesWrongFalsely : Prop := deparserConcatenatesRow.holds Try.pinned (OpenSpec.ofChange deparserConcatenatesWrong)

/-- 'patchbaylaw18.ParserChecks': WHATEVER THE INPUT: true; the input reads as it did. -/
def parserChecksSpec : ChangeSpec := { name := "parserChecks", fn := fun _ => fun
  | [d] => { results := [.lit (.bool true)], args := [d] }
  | _ => none }
def parserChecksRow : OpenClaim := { program := "ytonnlcjkgpahoaa", sum := "8a39b4e52ae93f930bd7296cda41c62e7d96588e995b7e265aef1a94be6fee25", func := "patchbay/patchbaylaw18.ParserChecks", spec := "parserChecks", unfollowed := true, recurses := true, loops := true, apart := false }
def ParserChecksSaid : Prop := parserChecksRow.holds Try.pinned (OpenSpec.ofChange parserChecksSpec)

/-- ITS FALSE NEIGHBOUR: 'it returns false'. Refute it at one input. -/
def parserChecksWrong : ChangeSpec := { name := "parserChecks", fn := fun _ => fun
  | [d] => { results := [.lit (.bool false)], args := [d] }
  | _ => none }
def ParserChecksWrongFalsely : Prop := parserChecksRow.holds Try.pinned (OpenSpec.ofChange parserChecksWrong)

/-- 'patchbaylaw18.ParserParses': WHATEVER THE INPUT: true; the input reads as it did. -/
def parserParsesSpec : ChangeSpec := { name := "parserParses", fn := fun _ => fun
  | [d1, d2] => { results := [.lit (.bool true)], args := [d1, d2] }
  | _ => none }
def parserParsesRow : OpenClaim := { program := "ytonnlcjkgpahoaa", sum := "8a39b4e52ae93f930bd7296cda41c62e7d96588e995b7e265aef1a94be6fee25", func := "patchbay/patchbaylaw18.ParserParses", spec := "parserParses", unfollowed := true, recurses := true, loops := true, apart := false }
def ParserParsesSaid : Prop := parserParsesRow.holds Try.pinned (OpenSpec.ofChange parserParsesSpec)

/-- ITS FALSE NEIGHBOUR: 'it returns false'. Refute it at one input. -/
def parserParsesWrong : ChangeSpec := { name := "parserParses", fn := fun _ => fun
  | [d1, d2] => { results := [.lit (.bool false)], args := [d1, d2] }
  | _ => none }
def ParserParsesWrongFalsely : Prop := parserParsesRow.holds Try.pinned (OpenSpec.ofChange parserParsesWrong)

/-- 'patchbaylaw18.ParserAppends': WHATEVER THE INPUT: true; the input reads as it did. -/
def parserAppendsSpec : ChangeSpec := { name := "parserAppends", fn := fun _ => fun
  | [d1, d2, d3] => { results := [.lit (.bool true)], args := [d1, d2, d3] }
  | _ => none }
def parserAppendsRow : OpenClaim := { program := "ytonnlcjkgpahoaa", sum := "8a39b4e52ae93f930bd7296cda41c62e7d96588e995b7e265aef1a94be6fee25", func := "patchbay/patchbaylaw18.ParserAppends", spec := "parserAppends", unfollowed := true, recurses := true, loops := true, apart := false }
def ParserAppendsSaid : Prop := parserAppendsRow.holds Try.pinned (OpenSpec.ofChange parserAppendsSpec)

/-- ITS FALSE NEIGHBOUR: 'it returns false'. Refute it at one input. -/
def parserAppendsWrong : ChangeSpec := { name := "parserAppends", fn := fun _ => fun
  | [d1, d2, d3] => { results := [.lit (.bool false)], args := [d1, d2, d3] }
  | _ => none }
def ParserAppendsWrongFalsely : Prop := parserAppendsRow.holds Try.pinned (OpenSpec.ofChange parserAppendsWrong)

/-- 'patchbaylaw18.ParserStates': WHATEVER THE INPUT: true; the input reads as it did. -/
def parserStatesSpec : ChangeSpec := { name := "parserStates", fn := fun _ => fun
  | [d1, d2] => { results := [.lit (.bool true)], args := [d1, d2] }
  | _ => none }
def parserStatesRow : OpenClaim := { program := "ytonnlcjkgpahoaa", sum := "8a39b4e52ae93f930bd7296cda41c62e7d96588e995b7e265aef1a94be6fee25", func := "patchbay/patchbaylaw18.ParserStates", spec := "parserStates", unfollowed := true, recurses := true, loops := true, apart := false }
def ParserStatesSaid : Prop := parserStatesRow.holds Try.pinned (OpenSpec.ofChange parserStatesSpec)

/-- ITS FALSE NEIGHBOUR: 'it returns false'. Refute it at one input. -/
def parserStatesWrong : ChangeSpec := { name := "parserStates", fn := fun _ => fun
  | [d1, d2] => { results := [.lit (.bool false)], args := [d1, d2] }
  | _ => none }
def ParserStatesWrongFalsely : Prop := parserStatesRow.holds Try.pinned (OpenSpec.ofChange parserStatesWrong)

/-- 'patchbaylaw18.ParserReads': WHATEVER THE INPUT: true; the input reads as it did. -/
def parserReadsSpec : ChangeSpec := { name := "parserReads", fn := fun _ => fun
  | [d1, d2, d3] => { results := [.lit (.bool true)], args := [d1, d2, d3] }
  | _ => none }
def parserReadsRow : OpenClaim := { program := "ytonnlcjkgpahoaa", sum := "8a39b4e52ae93f930bd7296cda41c62e7d96588e995b7e265aef1a94be6fee25", func := "patchbay/patchbaylaw18.ParserReads", spec := "parserReads", unfollowed := true, recurses := true, apart := false }
def ParserReadsSaid : Prop := parserReadsRow.holds Try.pinned (OpenSpec.ofChange parserReadsSpec)

/-- ITS FALSE NEIGHBOUR: 'it returns false'. Refute it at one input. -/
def parserReadsWrong : ChangeSpec := { name := "parserReads", fn := fun _ => fun
  | [d1, d2, d3] => { results := [.lit (.bool false)], args := [d1, d2, d3] }
  | _ => none }
def ParserReadsWrongFalsely : Prop := parserReadsRow.holds Try.pinned (OpenSpec.ofChange parserReadsWrong)

/-- 'patchbaylaw19.DeparserDecodes': WHATEVER THE INPUT: true; the input reads as it did. -/
def deparserDecodesSpec : ChangeSpec := { name := "deparserDecodes", fn := fun _ => fun
  | [d1, d2] => { results := [.lit (.bool true)], args := [d1, d2] }
  | _ => none }
def deparserDecodesRow : OpenClaim := { program := "ytonnlcjkgpahoaa", sum := "8a39b4e52ae93f930bd7296cda41c62e7d96588e995b7e265aef1a94be6fee25", func := "patchbay/patchbaylaw19.DeparserDecodes", spec := "deparserDecodes", unfollowed := true, recurses := true, loops := true, apart := false }
def DeparserDecodesSaid : Prop := deparserDecodesRow.holds Try.pinned (OpenSpec.ofChange deparserDecodesSpec)

/-- ITS FALSE NEIGHBOUR: 'it returns false'. Refute it at one input. -/
def deparserDecodesWrong : ChangeSpec := { name := "deparserDecodes", fn := fun _ => fun
  | [d1, d2] => { results := [.lit (.bool false)], args := [d1, d2] }
  | _ => none }
def DeparserDecodesWrongFalsely : Prop := deparserDecodesRow.holds Try.pinned (OpenSpec.ofChange deparserDecodesWrong)

/- THE SECOND FORM. 'bulk': how many values and letters a reading holds, each counted each time it is reached (what is shared counts as often as it is met; a slice's spare places count too). A statement '..UptoSaid' is the law's where the arguments, and the package variables that the reading takes, are together of bulk at most 1048576: NARROWER than '..Said'. Prove '..Said' where nothing that the law and all that it calls make is longer than what came in: it says more and counts as full. Else prove '..UptoSaid'. A law counts once. -/
mutual
def uptoBulk {H : Type} : DataW H → Nat
  | .lit (.string bytes) => bytes.length + 1
  | .lit _ => 1
  | .nil => 1
  | .ptr d => uptoBulk d + 1
  | .slice elems spare => uptoBulkAll elems + uptoBulkAll spare + 1
  | .agg parts => uptoBulkAll parts + 1
  | .iface _ d => uptoBulk d + 1
  | .map entries => uptoBulkEntries entries + 1
  | .held _ => 1
def uptoBulkAll {H : Type} : List (DataW H) → Nat
  | [] => 0
  | d :: r => uptoBulk d + uptoBulkAll r
def uptoBulkEntries {H : Type} : List (Lit × DataW H) → Nat
  | [] => 0
  | x :: r => uptoBulkEntry x + uptoBulkEntries r
def uptoBulkEntry {H : Type} : Lit × DataW H → Nat
  | (.string bytes, d) => bytes.length + uptoBulk d + 1
  | (_, d) => uptoBulk d + 1
 end
def uptoSmall : (H : Type) → List (DataW H) → Bool := fun _ ds => decide (uptoBulkAll ds ≤ 1048576)
def OpenSpec.upto (s : _root_.Go.ChangeSpec) : _root_.Go.OpenSpec := { _root_.Go.OpenSpec.ofChange s with cond := some uptoSmall }

/-- 'patchbaylaw19.DeparserMatches', WHERE WHAT IT READS IS OF BULK AT MOST 1048576: true; the input reads as it did. -/
def deparserMatchesUptoRow : OpenClaim := { program := "ytonnlcjkgpahoaa", sum := "8a39b4e52ae93f930bd7296cda41c62e7d96588e995b7e265aef1a94be6fee25", func := "patchbay/patchbaylaw19.DeparserMatches", spec := "deparserMatches", unfollowed := true, recurses := true, loops := true, apart := false, narrowed := true }
def DeparserMatchesUptoSaid : Prop := deparserMatchesUptoRow.holds Try.pinned (OpenSpec.upto deparserMatchesSpec)

/-- 'patchbaylaw19.DeparserOmits', WHERE WHAT IT READS IS OF BULK AT MOST 1048576: true; the input reads as it did. -/
def deparserOmitsUptoRow : OpenClaim := { program := "ytonnlcjkgpahoaa", sum := "8a39b4e52ae93f930bd7296cda41c62e7d96588e995b7e265aef1a94be6fee25", func := "patchbay/patchbaylaw19.DeparserOmits", spec := "deparserOmits", unfollowed := true, recurses := true, loops := true, apart := false, narrowed := true }
def DeparserOmitsUptoSaid : Prop := deparserOmitsUptoRow.holds Try.pinned (OpenSpec.upto deparserOmitsSpec)

/-- 'patchbaylaw19.DeparserConcatenates', WHERE WHAT IT READS IS OF BULK AT MOST 1048576: true; the input reads as it did. -/
def deparserConcatenatesUptoRow : OpenClaim := { program := "ytonnlcjkgpahoaa", sum := "8a39b4e52ae93f930bd7296cda41c62e7d96588e995b7e265aef1a94be6fee25", func := "patchbay/patchbaylaw19.DeparserConcatenates", spec := "deparserConcatenates", unfollowed := true, recurses := true, loops := true, apart := false, narrowed := true }
def DeparserConcatenatesUptoSaid : Prop := deparserConcatenatesUptoRow.holds Try.pinned (OpenSpec.upto deparserConcatenatesSpec)

/-- 'patchbaylaw18.ParserChecks', WHERE WHAT IT READS IS OF BULK AT MOST 1048576: true; the input reads as it did. -/
def parserChecksUptoRow : OpenClaim := { program := "ytonnlcjkgpahoaa", sum := "8a39b4e52ae93f930bd7296cda41c62e7d96588e995b7e265aef1a94be6fee25", func := "patchbay/patchbaylaw18.ParserChecks", spec := "parserChecks", unfollowed := true, recurses := true, loops := true, apart := false, narrowed := true }
def ParserChecksUptoSaid : Prop := parserChecksUptoRow.holds Try.pinned (OpenSpec.upto parserChecksSpec)

/-- 'patchbaylaw18.ParserParses', WHERE WHAT IT READS IS OF BULK AT MOST 1048576: true; the input reads as it did. -/
def parserParsesUptoRow : OpenClaim := { program := "ytonnlcjkgpahoaa", sum := "8a39b4e52ae93f930bd7296cda41c62e7d96588e995b7e265aef1a94be6fee25", func := "patchbay/patchbaylaw18.ParserParses", spec := "parserParses", unfollowed := true, recurses := true, loops := true, apart := false, narrowed := true }
def ParserParsesUptoSaid : Prop := parserParsesUptoRow.holds Try.pinned (OpenSpec.upto parserParsesSpec)

/-- 'patchbaylaw18.ParserAppends', WHERE WHAT IT READS IS OF BULK AT MOST 1048576: true; the input reads as it did. -/
def parserAppendsUptoRow : OpenClaim := { program := "ytonnlcjkgpahoaa", sum := "8a39b4e52ae93f930bd7296cda41c62e7d96588e995b7e265aef1a94be6fee25", func := "patchbay/patchbaylaw18.ParserAppends", spec := "parserAppends", unfollowed := true, recurses := true, loops := true, apart := false, narrowed := true }
def ParserAppendsUptoSaid : Prop := parserAppendsUptoRow.holds Try.pinned (OpenSpec.upto parserAppendsSpec)

/-- 'patchbaylaw18.ParserStates', WHERE WHAT IT READS IS OF BULK AT MOST 1048576: true; the input reads as it did. -/
def parserStatesUptoRow : OpenClaim := { program := "ytonnlcjkgpahoaa", sum := "8a39b4e52ae93f930bd7296cda41c62e7d96588e995b7e265aef1a94be6fee25", func := "patchbay/patchbaylaw18.ParserStates", spec := "parserStates", unfollowed := true, recurses := true, loops := true, apart := false, narrowed := true }
def ParserStatesUptoSaid : Prop := parserStatesUptoRow.holds Try.pinned (OpenSpec.upto parserStatesSpec)

/-- 'patchbaylaw18.ParserReads', WHERE WHAT IT READS IS OF BULK AT MOST 1048576: true; the input reads as it did. -/
def parserReadsUptoRow : OpenClaim := { program := "ytonnlcjkgpahoaa", sum := "8a39b4e52ae93f930bd7296cda41c62e7d96588e995b7e265aef1a94be6fee25", func := "patchbay/patchbaylaw18.ParserReads", spec := "parserReads", unfollowed := true, recurses := true, apart := false, narrowed := true }
def ParserReadsUptoSaid : Prop := parserReadsUptoRow.holds Try.pinned (OpenSpec.upto parserReadsSpec)

/-- 'patchbaylaw19.DeparserDecodes', WHERE WHAT IT READS IS OF BULK AT MOST 1048576: true; the input reads as it did. -/
def deparserDecodesUptoRow : OpenClaim := { program := "ytonnlcjkgpahoaa", sum := "8a39b4e52ae93f930bd7296cda41c62e7d96588e995b7e265aef1a94be6fee25", func := "patchbay/patchbaylaw19.DeparserDecodes", spec := "deparserDecodes", unfollowed := true, recurses := true, loops := true, apart := false, narrowed := true }
def DeparserDecodesUptoSaid : Prop := deparserDecodesUptoRow.holds Try.pinned (OpenSpec.upto deparserDecodesSpec)

end Rows
end Go.Proofs.Ytonnlcjkgpahoaa
