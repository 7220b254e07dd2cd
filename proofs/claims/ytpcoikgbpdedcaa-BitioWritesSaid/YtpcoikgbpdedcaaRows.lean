/-
  No cell of these rows narrows 'for every input' (looked for: loops, veiled, ifaces, maps, wideKeys, modest, calm, conditions, laid).
  DERIVED. THE GIVEN ROWS OF THIS SEAT. 12 by the template 'for every input the law returns true; each argument reads behind the call as it read before'; 0 by the template 'total and deterministic' (their statements: YtpcoikgbpdedcaaTotals.lean).
  GIVEN WITH THE SEED: the statements are not yours to turn. If you find one false, say at which input.
  Laid BY PROGRAM, IN A SANDBOX (cutbox-rows.mjs): the forced cells as the released guide's own fill.sh prints them over the translation 240f70cdf1be6693… (all of the seat's roots in one cut). By AI agents, Wed Nov 11 2026. No macro, syntax, notation, axiom, sorry.
-/
import Derived.Test.YtpcoikgbpdedcaaChecked
import GoSem.Claim
import GoSem.ClaimJoined
import GoSem.ClaimMapViews
import Derived.JoinedTies
import Derived.KernelRfl
namespace Go.Proofs.Ytpcoikgbpdedcaa
/- THE CELL 'sum', in the pinned program and in every row, IS THE sha256 OF THE DUMP (.gsa) THAT YtpcoikgbpdedcaaProg.lean LOADS. Nothing in Lean hashes anything: it is a label: what it is worth is what the hold of that sum in a sandbox is worth. -/
noncomputable def Try.pinned : Pinned := { name := "ytpcoikgbpdedcaa", sum := "240f70cdf1be66934be367a0f43e35c613ac86ca7e4d2f0710b8eed2f0f9fd05", checked := Try.checked }
namespace Rows
def none {H : Type} : Left H := { results := [], args := [] }

/-- 'patchbaylaw01.BitvecInverts': WHATEVER THE INPUT: true; the input reads as it did. -/
def bitvecInvertsSpec : ChangeSpec := { name := "bitvecInverts", fn := fun _ => fun
  | [d1, d2, d3] => { results := [.lit (.bool true)], args := [d1, d2, d3] }
  | _ => none }
def bitvecInvertsRow : OpenClaim := { program := "ytpcoikgbpdedcaa", sum := "240f70cdf1be66934be367a0f43e35c613ac86ca7e4d2f0710b8eed2f0f9fd05", func := "patchbay/patchbaylaw01.BitvecInverts", spec := "bitvecInverts", apart := false }
def BitvecInvertsSaid : Prop := bitvecInvertsRow.holds Try.pinned (OpenSpec.ofChange bitvecInvertsSpec)

/-- ITS FALSE NEIGHBOUR: 'it returns false'. Refute it at one input. -/
def bitvecInvertsWrong : ChangeSpec := { name := "bitvecInverts", fn := fun _ => fun
  | [d1, d2, d3] => { results := [.lit (.bool false)], args := [d1, d2, d3] }
  | _ => none }
def BitvecInvertsWrongFalsely : Prop := bitvecInvertsRow.holds Try.pinned (OpenSpec.ofChange bitvecInvertsWrong)

/-- 'patchbaylaw01.BitvecSlices': WHATEVER THE INPUT: true; the input reads as it did. -/
def bitvecSlicesSpec : ChangeSpec := { name := "bitvecSlices", fn := fun _ => fun
  | [d1, d2, d3] => { results := [.lit (.bool true)], args := [d1, d2, d3] }
  | _ => none }
def bitvecSlicesRow : OpenClaim := { program := "ytpcoikgbpdedcaa", sum := "240f70cdf1be66934be367a0f43e35c613ac86ca7e4d2f0710b8eed2f0f9fd05", func := "patchbay/patchbaylaw01.BitvecSlices", spec := "bitvecSlices", apart := false }
def BitvecSlicesSaid : Prop := bitvecSlicesRow.holds Try.pinned (OpenSpec.ofChange bitvecSlicesSpec)

/-- ITS FALSE NEIGHBOUR: 'it returns false'. Refute it at one input. -/
def bitvecSlicesWrong : ChangeSpec := { name := "bitvecSlices", fn := fun _ => fun
  | [d1, d2, d3] => { results := [.lit (.bool false)], args := [d1, d2, d3] }
  | _ => none }
def BitvecSlicesWrongFalsely : Prop := bitvecSlicesRow.holds Try.pinned (OpenSpec.ofChange bitvecSlicesWrong)

/-- 'patchbaylaw01.BitvecConcats': WHATEVER THE INPUT: true; the input reads as it did. -/
def bitvecConcatsSpec : ChangeSpec := { name := "bitvecConcats", fn := fun _ => fun
  | [d1, d2, d3] => { results := [.lit (.bool true)], args := [d1, d2, d3] }
  | _ => none }
def bitvecConcatsRow : OpenClaim := { program := "ytpcoikgbpdedcaa", sum := "240f70cdf1be66934be367a0f43e35c613ac86ca7e4d2f0710b8eed2f0f9fd05", func := "patchbay/patchbaylaw01.BitvecConcats", spec := "bitvecConcats", apart := false }
def BitvecConcatsSaid : Prop := bitvecConcatsRow.holds Try.pinned (OpenSpec.ofChange bitvecConcatsSpec)

/-- ITS FALSE NEIGHBOUR: 'it returns false'. Refute it at one input. -/
def bitvecConcatsWrong : ChangeSpec := { name := "bitvecConcats", fn := fun _ => fun
  | [d1, d2, d3] => { results := [.lit (.bool false)], args := [d1, d2, d3] }
  | _ => none }
def BitvecConcatsWrongFalsely : Prop := bitvecConcatsRow.holds Try.pinned (OpenSpec.ofChange bitvecConcatsWrong)

/-- 'patchbaylaw01.BitvecMatches': WHATEVER THE INPUT: true; the input reads as it did. -/
def bitvecMatchesSpec : ChangeSpec := { name := "bitvecMatches", fn := fun _ => fun
  | [d] => { results := [.lit (.bool true)], args := [d] }
  | _ => none }
def bitvecMatchesRow : OpenClaim := { program := "ytpcoikgbpdedcaa", sum := "240f70cdf1be66934be367a0f43e35c613ac86ca7e4d2f0710b8eed2f0f9fd05", func := "patchbay/patchbaylaw01.BitvecMatches", spec := "bitvecMatches", apart := false }
def BitvecMatchesSaid : Prop := bitvecMatchesRow.holds Try.pinned (OpenSpec.ofChange bitvecMatchesSpec)

/-- ITS FALSE NEIGHBOUR: 'it returns false'. Refute it at one input. -/
def bitvecMatchesWrong : ChangeSpec := { name := "bitvecMatches", fn := fun _ => fun
  | [d] => { results := [.lit (.bool false)], args := [d] }
  | _ => none }
def BitvecMatchesWrongFalsely : Prop := bitvecMatchesRow.holds Try.pinned (OpenSpec.ofChange bitvecMatchesWrong)

/-- 'patchbaylaw01.BitvecPrefixes': WHATEVER THE INPUT: true; the input reads as it did. -/
def bitvecPrefixesSpec : ChangeSpec := { name := "bitvecPrefixes", fn := fun _ => fun
  | [d1, d2, d3] => { results := [.lit (.bool true)], args := [d1, d2, d3] }
  | _ => none }
def bitvecPrefixesRow : OpenClaim := { program := "ytpcoikgbpdedcaa", sum := "240f70cdf1be66934be367a0f43e35c613ac86ca7e4d2f0710b8eed2f0f9fd05", func := "patchbay/patchbaylaw01.BitvecPrefixes", spec := "bitvecPrefixes", apart := false }
def BitvecPrefixesSaid : Prop := bitvecPrefixesRow.holds Try.pinned (OpenSpec.ofChange bitvecPrefixesSpec)

/-- ITS FALSE NEIGHBOUR: 'it returns false'. Refute it at one input. -/
def bitvecPrefixesWrong : ChangeSpec := { name := "bitvecPrefixes", fn := fun _ => fun
  | [d1, d2, d3] => { results := [.lit (.bool false)], args := [d1, d2, d3] }
  | _ => none }
def BitvecPrefixesWrongFalsely : Prop := bitvecPrefixesRow.holds Try.pinned (OpenSpec.ofChange bitvecPrefixesWrong)

/-- 'patchbaylaw02.BitioPacks': WHATEVER THE INPUT: true; the input reads as it did. -/
def bitioPacksSpec : ChangeSpec := { name := "bitioPacks", fn := fun _ => fun
  | [d1, d2, d3] => { results := [.lit (.bool true)], args := [d1, d2, d3] }
  | _ => none }
def bitioPacksRow : OpenClaim := { program := "ytpcoikgbpdedcaa", sum := "240f70cdf1be66934be367a0f43e35c613ac86ca7e4d2f0710b8eed2f0f9fd05", func := "patchbay/patchbaylaw02.BitioPacks", spec := "bitioPacks", apart := false }
def BitioPacksSaid : Prop := bitioPacksRow.holds Try.pinned (OpenSpec.ofChange bitioPacksSpec)

/-- ITS FALSE NEIGHBOUR: 'it returns false'. Refute it at one input. -/
def bitioPacksWrong : ChangeSpec := { name := "bitioPacks", fn := fun _ => fun
  | [d1, d2, d3] => { results := [.lit (.bool false)], args := [d1, d2, d3] }
  | _ => none }
def BitioPacksWrongFalsely : Prop := bitioPacksRow.holds Try.pinned (OpenSpec.ofChange bitioPacksWrong)

/-- 'patchbaylaw02.BitioRepacks': WHATEVER THE INPUT: true; the input reads as it did. -/
def bitioRepacksSpec : ChangeSpec := { name := "bitioRepacks", fn := fun _ => fun
  | [d1, d2] => { results := [.lit (.bool true)], args := [d1, d2] }
  | _ => none }
def bitioRepacksRow : OpenClaim := { program := "ytpcoikgbpdedcaa", sum := "240f70cdf1be66934be367a0f43e35c613ac86ca7e4d2f0710b8eed2f0f9fd05", func := "patchbay/patchbaylaw02.BitioRepacks", spec := "bitioRepacks", apart := false }
def BitioRepacksSaid : Prop := bitioRepacksRow.holds Try.pinned (OpenSpec.ofChange bitioRepacksSpec)

/-- ITS FALSE NEIGHBOUR: 'it returns false'. Refute it at one input. -/
def bitioRepacksWrong : ChangeSpec := { name := "bitioRepacks", fn := fun _ => fun
  | [d1, d2] => { results := [.lit (.bool false)], args := [d1, d2] }
  | _ => none }
def BitioRepacksWrongFalsely : Prop := bitioRepacksRow.holds Try.pinned (OpenSpec.ofChange bitioRepacksWrong)

/-- 'patchbaylaw02.BitioWrites': WHATEVER THE INPUT: true; the input reads as it did. -/
def bitioWritesSpec : ChangeSpec := { name := "bitioWrites", fn := fun _ => fun
  | [d] => { results := [.lit (.bool true)], args := [d] }
  | _ => none }
def bitioWritesRow : OpenClaim := { program := "ytpcoikgbpdedcaa", sum := "240f70cdf1be66934be367a0f43e35c613ac86ca7e4d2f0710b8eed2f0f9fd05", func := "patchbay/patchbaylaw02.BitioWrites", spec := "bitioWrites", apart := false }
def BitioWritesSaid : Prop := bitioWritesRow.holds Try.pinned (OpenSpec.ofChange bitioWritesSpec)

/-- ITS FALSE NEIGHBOUR: 'it returns false'. Refute it at one input. -/
def bitioWritesWrong : ChangeSpec := { name := "bitioWrites", fn := fun _ => fun
  | [d] => { results := [.lit (.bool false)], args := [d] }
  | _ => none }
def BitioWritesWrongFalsely : Prop := bitioWritesRow.holds Try.pinned (OpenSpec.ofChange bitioWritesWrong)

/-- 'patchbaylaw02.BitioRoundTrip': WHATEVER THE INPUT: true; the input reads as it did. -/
def bitioRoundTripSpec : ChangeSpec := { name := "bitioRoundTrip", fn := fun _ => fun
  | [d1, d2] => { results := [.lit (.bool true)], args := [d1, d2] }
  | _ => none }
def bitioRoundTripRow : OpenClaim := { program := "ytpcoikgbpdedcaa", sum := "240f70cdf1be66934be367a0f43e35c613ac86ca7e4d2f0710b8eed2f0f9fd05", func := "patchbay/patchbaylaw02.BitioRoundTrip", spec := "bitioRoundTrip", apart := false }
def BitioRoundTripSaid : Prop := bitioRoundTripRow.holds Try.pinned (OpenSpec.ofChange bitioRoundTripSpec)

/-- ITS FALSE NEIGHBOUR: 'it returns false'. Refute it at one input. -/
def bitioRoundTripWrong : ChangeSpec := { name := "bitioRoundTrip", fn := fun _ => fun
  | [d1, d2] => { results := [.lit (.bool false)], args := [d1, d2] }
  | _ => none }
def BitioRoundTripWrongFalsely : Prop := bitioRoundTripRow.holds Try.pinned (OpenSpec.ofChange bitioRoundTripWrong)

/-- 'patchbaylaw02.BitioReads': WHATEVER THE INPUT: true; the input reads as it did. -/
def bitioReadsSpec : ChangeSpec := { name := "bitioReads", fn := fun _ => fun
  | [d1, d2] => { results := [.lit (.bool true)], args := [d1, d2] }
  | _ => none }
def bitioReadsRow : OpenClaim := { program := "ytpcoikgbpdedcaa", sum := "240f70cdf1be66934be367a0f43e35c613ac86ca7e4d2f0710b8eed2f0f9fd05", func := "patchbay/patchbaylaw02.BitioReads", spec := "bitioReads", apart := false }
def BitioReadsSaid : Prop := bitioReadsRow.holds Try.pinned (OpenSpec.ofChange bitioReadsSpec)

/-- ITS FALSE NEIGHBOUR: 'it returns false'. Refute it at one input. -/
def bitioReadsWrong : ChangeSpec := { name := "bitioReads", fn := fun _ => fun
  | [d1, d2] => { results := [.lit (.bool false)], args := [d1, d2] }
  | _ => none }
def BitioReadsWrongFalsely : Prop := bitioReadsRow.holds Try.pinned (OpenSpec.ofChange bitioReadsWrong)

/-- 'patchbaylaw02.BitioCopies': WHATEVER THE INPUT: true; the input reads as it did. -/
def bitioCopiesSpec : ChangeSpec := { name := "bitioCopies", fn := fun _ => fun
  | [d1, d2] => { results := [.lit (.bool true)], args := [d1, d2] }
  | _ => none }
def bitioCopiesRow : OpenClaim := { program := "ytpcoikgbpdedcaa", sum := "240f70cdf1be66934be367a0f43e35c613ac86ca7e4d2f0710b8eed2f0f9fd05", func := "patchbay/patchbaylaw02.BitioCopies", spec := "bitioCopies", apart := false }
def BitioCopiesSaid : Prop := bitioCopiesRow.holds Try.pinned (OpenSpec.ofChange bitioCopiesSpec)

/-- ITS FALSE NEIGHBOUR: 'it returns false'. Refute it at one input. -/
def bitioCopiesWrong : ChangeSpec := { name := "bitioCopies", fn := fun _ => fun
  | [d1, d2] => { results := [.lit (.bool false)], args := [d1, d2] }
  | _ => none }
def BitioCopiesWrongFalsely : Prop := bitioCopiesRow.holds Try.pinned (OpenSpec.ofChange bitioCopiesWrong)

/-- 'patchbaylaw02.BitioNil': WHATEVER THE INPUT: true; the input reads as it did. -/
def bitioNilSpec : ChangeSpec := { name := "bitioNil", fn := fun _ => fun
  | [d1, d2] => { results := [.lit (.bool true)], args := [d1, d2] }
  | _ => none }
def bitioNilRow : OpenClaim := { program := "ytpcoikgbpdedcaa", sum := "240f70cdf1be66934be367a0f43e35c613ac86ca7e4d2f0710b8eed2f0f9fd05", func := "patchbay/patchbaylaw02.BitioNil", spec := "bitioNil", apart := false }
def BitioNilSaid : Prop := bitioNilRow.holds Try.pinned (OpenSpec.ofChange bitioNilSpec)

/-- ITS FALSE NEIGHBOUR: 'it returns false'. Refute it at one input. -/
def bitioNilWrong : ChangeSpec := { name := "bitioNil", fn := fun _ => fun
  | [d1, d2] => { results := [.lit (.bool false)], args := [d1, d2] }
  | _ => none }
def BitioNilWrongFalsely : Prop := bitioNilRow.holds Try.pinned (OpenSpec.ofChange bitioNilWrong)

/- THE SECOND FORM. 'bulk': how many values and letters a reading holds, each counted each time it is reached (what is shared counts as often as it is met; a slice's spare places count too). A statement '..UptoSaid' is the law's where the arguments, and the package variables that the reading takes, are together of bulk at most 1048576: NARROWER than '..Said'. Prove '..Said' where nothing that the law and all that it calls make is longer than what came in: it says more and counts as full. Else prove '..UptoSaid'. A law counts once. -/
mutual
def uptoBulk {H : Type} : DataW H → Nat
  | .lit (.string bytes) => bytes.length + 1
  | .lit _ => 1
  | .nil => 1
  | .ptr d => uptoBulk d + 1
  | .slice elems spare => uptoBulkAll elems + uptoBulkAll spare + 1
  | .agg parts => uptoBulkAll parts + 1
  | .iface _ d => uptoBulk d + 1
  | .map entries => uptoBulkEntries entries + 1
  | .held _ => 1
def uptoBulkAll {H : Type} : List (DataW H) → Nat
  | [] => 0
  | d :: r => uptoBulk d + uptoBulkAll r
def uptoBulkEntries {H : Type} : List (Lit × DataW H) → Nat
  | [] => 0
  | x :: r => uptoBulkEntry x + uptoBulkEntries r
def uptoBulkEntry {H : Type} : Lit × DataW H → Nat
  | (.string bytes, d) => bytes.length + uptoBulk d + 1
  | (_, d) => uptoBulk d + 1
 end
def uptoSmall : (H : Type) → List (DataW H) → Bool := fun _ ds => decide (uptoBulkAll ds ≤ 1048576)
def OpenSpec.upto (s : _root_.Go.ChangeSpec) : _root_.Go.OpenSpec := { _root_.Go.OpenSpec.ofChange s with cond := some uptoSmall }

/-- 'patchbaylaw01.BitvecInverts', WHERE WHAT IT READS IS OF BULK AT MOST 1048576: true; the input reads as it did. -/
def bitvecInvertsUptoRow : OpenClaim := { program := "ytpcoikgbpdedcaa", sum := "240f70cdf1be66934be367a0f43e35c613ac86ca7e4d2f0710b8eed2f0f9fd05", func := "patchbay/patchbaylaw01.BitvecInverts", spec := "bitvecInverts", apart := false, narrowed := true }
def BitvecInvertsUptoSaid : Prop := bitvecInvertsUptoRow.holds Try.pinned (OpenSpec.upto bitvecInvertsSpec)

/-- 'patchbaylaw01.BitvecSlices', WHERE WHAT IT READS IS OF BULK AT MOST 1048576: true; the input reads as it did. -/
def bitvecSlicesUptoRow : OpenClaim := { program := "ytpcoikgbpdedcaa", sum := "240f70cdf1be66934be367a0f43e35c613ac86ca7e4d2f0710b8eed2f0f9fd05", func := "patchbay/patchbaylaw01.BitvecSlices", spec := "bitvecSlices", apart := false, narrowed := true }
def BitvecSlicesUptoSaid : Prop := bitvecSlicesUptoRow.holds Try.pinned (OpenSpec.upto bitvecSlicesSpec)

/-- 'patchbaylaw01.BitvecConcats', WHERE WHAT IT READS IS OF BULK AT MOST 1048576: true; the input reads as it did. -/
def bitvecConcatsUptoRow : OpenClaim := { program := "ytpcoikgbpdedcaa", sum := "240f70cdf1be66934be367a0f43e35c613ac86ca7e4d2f0710b8eed2f0f9fd05", func := "patchbay/patchbaylaw01.BitvecConcats", spec := "bitvecConcats", apart := false, narrowed := true }
def BitvecConcatsUptoSaid : Prop := bitvecConcatsUptoRow.holds Try.pinned (OpenSpec.upto bitvecConcatsSpec)

/-- 'patchbaylaw01.BitvecMatches', WHERE WHAT IT READS IS OF BULK AT MOST 1048576: true; the input reads as it did. -/
def bitvecMatchesUptoRow : OpenClaim := { program := "ytpcoikgbpdedcaa", sum := "240f70cdf1be66934be367a0f43e35c613ac86ca7e4d2f0710b8eed2f0f9fd05", func := "patchbay/patchbaylaw01.BitvecMatches", spec := "bitvecMatches", apart := false, narrowed := true }
def BitvecMatchesUptoSaid : Prop := bitvecMatchesUptoRow.holds Try.pinned (OpenSpec.upto bitvecMatchesSpec)

/-- 'patchbaylaw01.BitvecPrefixes', WHERE WHAT IT READS IS OF BULK AT MOST 1048576: true; the input reads as it did. -/
def bitvecPrefixesUptoRow : OpenClaim := { program := "ytpcoikgbpdedcaa", sum := "240f70cdf1be66934be367a0f43e35c613ac86ca7e4d2f0710b8eed2f0f9fd05", func := "patchbay/patchbaylaw01.BitvecPrefixes", spec := "bitvecPrefixes", apart := false, narrowed := true }
def BitvecPrefixesUptoSaid : Prop := bitvecPrefixesUptoRow.holds Try.pinned (OpenSpec.upto bitvecPrefixesSpec)

/-- 'patchbaylaw02.BitioPacks', WHERE WHAT IT READS IS OF BULK AT MOST 1048576: true; the input reads as it did. -/
def bitioPacksUptoRow : OpenClaim := { program := "ytpcoikgbpdedcaa", sum := "240f70cdf1be66934be367a0f43e35c613ac86ca7e4d2f0710b8eed2f0f9fd05", func := "patchbay/patchbaylaw02.BitioPacks", spec := "bitioPacks", apart := false, narrowed := true }
def BitioPacksUptoSaid : Prop := bitioPacksUptoRow.holds Try.pinned (OpenSpec.upto bitioPacksSpec)

/-- 'patchbaylaw02.BitioRepacks', WHERE WHAT IT READS IS OF BULK AT MOST 1048576: true; the input reads as it did. -/
def bitioRepacksUptoRow : OpenClaim := { program := "ytpcoikgbpdedcaa", sum := "240f70cdf1be66934be367a0f43e35c613ac86ca7e4d2f0710b8eed2f0f9fd05", func := "patchbay/patchbaylaw02.BitioRepacks", spec := "bitioRepacks", apart := false, narrowed := true }
def BitioRepacksUptoSaid : Prop := bitioRepacksUptoRow.holds Try.pinned (OpenSpec.upto bitioRepacksSpec)

/-- 'patchbaylaw02.BitioWrites', WHERE WHAT IT READS IS OF BULK AT MOST 1048576: true; the input reads as it did. -/
def bitioWritesUptoRow : OpenClaim := { program := "ytpcoikgbpdedcaa", sum := "240f70cdf1be66934be367a0f43e35c613ac86ca7e4d2f0710b8eed2f0f9fd05", func := "patchbay/patchbaylaw02.BitioWrites", spec := "bitioWrites", apart := false, narrowed := true }
def BitioWritesUptoSaid : Prop := bitioWritesUptoRow.holds Try.pinned (OpenSpec.upto bitioWritesSpec)

/-- 'patchbaylaw02.BitioRoundTrip', WHERE WHAT IT READS IS OF BULK AT MOST 1048576: true; the input reads as it did. -/
def bitioRoundTripUptoRow : OpenClaim := { program := "ytpcoikgbpdedcaa", sum := "240f70cdf1be66934be367a0f43e35c613ac86ca7e4d2f0710b8eed2f0f9fd05", func := "patchbay/patchbaylaw02.BitioRoundTrip", spec := "bitioRoundTrip", apart := false, narrowed := true }
def BitioRoundTripUptoSaid : Prop := bitioRoundTripUptoRow.holds Try.pinned (OpenSpec.upto bitioRoundTripSpec)

/-- 'patchbaylaw02.BitioReads', WHERE WHAT IT READS IS OF BULK AT MOST 1048576: true; the input reads as it did. -/
def bitioReadsUptoRow : OpenClaim := { program := "ytpcoikgbpdedcaa", sum := "240f70cdf1be66934be367a0f43e35c613ac86ca7e4d2f0710b8eed2f0f9fd05", func := "patchbay/patchbaylaw02.BitioReads", spec := "bitioReads", apart := false, narrowed := true }
def BitioReadsUptoSaid : Prop := bitioReadsUptoRow.holds Try.pinned (OpenSpec.upto bitioReadsSpec)

/-- 'patchbaylaw02.BitioCopies', WHERE WHAT IT READS IS OF BULK AT MOST 1048576: true; the input reads as it did. -/
def bitioCopiesUptoRow : OpenClaim := { program := "ytpcoikgbpdedcaa", sum := "240f70cdf1be66934be367a0f43e35c613ac86ca7e4d2f0710b8eed2f0f9fd05", func := "patchbay/patchbaylaw02.BitioCopies", spec := "bitioCopies", apart := false, narrowed := true }
def BitioCopiesUptoSaid : Prop := bitioCopiesUptoRow.holds Try.pinned (OpenSpec.upto bitioCopiesSpec)

/-- 'patchbaylaw02.BitioNil', WHERE WHAT IT READS IS OF BULK AT MOST 1048576: true; the input reads as it did. -/
def bitioNilUptoRow : OpenClaim := { program := "ytpcoikgbpdedcaa", sum := "240f70cdf1be66934be367a0f43e35c613ac86ca7e4d2f0710b8eed2f0f9fd05", func := "patchbay/patchbaylaw02.BitioNil", spec := "bitioNil", apart := false, narrowed := true }
def BitioNilUptoSaid : Prop := bitioNilUptoRow.holds Try.pinned (OpenSpec.upto bitioNilSpec)

end Rows
end Go.Proofs.Ytpcoikgbpdedcaa
