/-
  No cell of these rows narrows 'for every input' (looked for: loops, veiled, ifaces, maps, wideKeys, modest, calm, conditions, laid).
  DERIVED. THE GIVEN ROWS OF THIS SEAT. 13 by the template 'for every input the law returns true; each argument reads behind the call as it read before'; 0 by the template 'total and deterministic' (their statements: YtkanbnbofoabeaaTotals.lean).
  GIVEN WITH THE SEED: the statements are not yours to turn. If you find one false, say at which input.
  Laid BY PROGRAM, IN A SANDBOX (cutbox-rows.mjs): the forced cells as the released guide's own fill.sh prints them over the translation cacecd9c8ca8b756… (all of the seat's roots in one cut). By AI agents, Wed Nov 11 2026. No macro, syntax, notation, axiom, sorry.
-/
import Derived.Test.YtkanbnbofoabeaaChecked
import GoSem.Claim
import GoSem.ClaimJoined
import GoSem.ClaimMapViews
import Derived.JoinedTies
import Derived.KernelRfl
namespace Go.Proofs.Ytkanbnbofoabeaa
/- THE CELL 'sum', in the pinned program and in every row, IS THE sha256 OF THE DUMP (.gsa) THAT YtkanbnbofoabeaaProg.lean LOADS. Nothing in Lean hashes anything: it is a label: what it is worth is what the hold of that sum in a sandbox is worth. -/
noncomputable def Try.pinned : Pinned := { name := "ytkanbnbofoabeaa", sum := "cacecd9c8ca8b756a56c6061bfae7b8bf0b1e5bac0dc948e33c92e1f9762c97e", checked := Try.checked }
namespace Rows
def none {H : Type} : Left H := { results := [], args := [] }

/-- 'laws.FnExactCounterTable': WHATEVER THE INPUT: true; the input reads as it did. -/
def fnExactCounterTableSpec : ChangeSpec := { name := "fnExactCounterTable", fn := fun _ => fun
  | [d1, d2, d3] => { results := [.lit (.bool true)], args := [d1, d2, d3] }
  | _ => none }
def fnExactCounterTableRow : OpenClaim := { program := "ytkanbnbofoabeaa", sum := "cacecd9c8ca8b756a56c6061bfae7b8bf0b1e5bac0dc948e33c92e1f9762c97e", func := "loop.example/g01988/laws.FnExactCounterTable", spec := "fnExactCounterTable", apart := false }
def FnExactCounterTableSaid : Prop := fnExactCounterTableRow.holds Try.pinned (OpenSpec.ofChange fnExactCounterTableSpec)

/-- ITS FALSE NEIGHBOUR: 'it returns false'. Refute it at one input. -/
def fnExactCounterTableWrong : ChangeSpec := { name := "fnExactCounterTable", fn := fun _ => fun
  | [d1, d2, d3] => { results := [.lit (.bool false)], args := [d1, d2, d3] }
  | _ => none }
def FnExactCounterTableWrongFalsely : Prop := fnExactCounterTableRow.holds Try.pinned (OpenSpec.ofChange fnExactCounterTableWrong)

/-- 'laws.FnExactIsUnique': WHATEVER THE INPUT: true; the input reads as it did. -/
def fnExactIsUniqueSpec : ChangeSpec := { name := "fnExactIsUnique", fn := fun _ => fun
  | [d1, d2, d3] => { results := [.lit (.bool true)], args := [d1, d2, d3] }
  | _ => none }
def fnExactIsUniqueRow : OpenClaim := { program := "ytkanbnbofoabeaa", sum := "cacecd9c8ca8b756a56c6061bfae7b8bf0b1e5bac0dc948e33c92e1f9762c97e", func := "loop.example/g01988/laws.FnExactIsUnique", spec := "fnExactIsUnique", unfollowed := true, recurses := true, apart := false }
def FnExactIsUniqueSaid : Prop := fnExactIsUniqueRow.holds Try.pinned (OpenSpec.ofChange fnExactIsUniqueSpec)

/-- ITS FALSE NEIGHBOUR: 'it returns false'. Refute it at one input. -/
def fnExactIsUniqueWrong : ChangeSpec := { name := "fnExactIsUnique", fn := fun _ => fun
  | [d1, d2, d3] => { results := [.lit (.bool false)], args := [d1, d2, d3] }
  | _ => none }
def FnExactIsUniqueWrongFalsely : Prop := fnExactIsUniqueRow.holds Try.pinned (OpenSpec.ofChange fnExactIsUniqueWrong)

/-- 'laws.FnExactEqualSearches': WHATEVER THE INPUT: true; the input reads as it did. -/
def fnExactEqualSearchesSpec : ChangeSpec := { name := "fnExactEqualSearches", fn := fun _ => fun
  | [d1, d2] => { results := [.lit (.bool true)], args := [d1, d2] }
  | _ => none }
def fnExactEqualSearchesRow : OpenClaim := { program := "ytkanbnbofoabeaa", sum := "cacecd9c8ca8b756a56c6061bfae7b8bf0b1e5bac0dc948e33c92e1f9762c97e", func := "loop.example/g01988/laws.FnExactEqualSearches", spec := "fnExactEqualSearches", unfollowed := true, recurses := true, apart := false }
def FnExactEqualSearchesSaid : Prop := fnExactEqualSearchesRow.holds Try.pinned (OpenSpec.ofChange fnExactEqualSearchesSpec)

/-- ITS FALSE NEIGHBOUR: 'it returns false'. Refute it at one input. -/
def fnExactEqualSearchesWrong : ChangeSpec := { name := "fnExactEqualSearches", fn := fun _ => fun
  | [d1, d2] => { results := [.lit (.bool false)], args := [d1, d2] }
  | _ => none }
def FnExactEqualSearchesWrongFalsely : Prop := fnExactEqualSearchesRow.holds Try.pinned (OpenSpec.ofChange fnExactEqualSearchesWrong)

/-- 'laws.FnExactArmstrongTable': WHATEVER THE INPUT: true; the input reads as it did. -/
def fnExactArmstrongTableSpec : ChangeSpec := { name := "fnExactArmstrongTable", fn := fun _ => fun
  | [d1, d2] => { results := [.lit (.bool true)], args := [d1, d2] }
  | _ => none }
def fnExactArmstrongTableRow : OpenClaim := { program := "ytkanbnbofoabeaa", sum := "cacecd9c8ca8b756a56c6061bfae7b8bf0b1e5bac0dc948e33c92e1f9762c97e", func := "loop.example/g01988/laws.FnExactArmstrongTable", spec := "fnExactArmstrongTable", apart := false }
def FnExactArmstrongTableSaid : Prop := fnExactArmstrongTableRow.holds Try.pinned (OpenSpec.ofChange fnExactArmstrongTableSpec)

/-- ITS FALSE NEIGHBOUR: 'it returns false'. Refute it at one input. -/
def fnExactArmstrongTableWrong : ChangeSpec := { name := "fnExactArmstrongTable", fn := fun _ => fun
  | [d1, d2] => { results := [.lit (.bool false)], args := [d1, d2] }
  | _ => none }
def FnExactArmstrongTableWrongFalsely : Prop := fnExactArmstrongTableRow.holds Try.pinned (OpenSpec.ofChange fnExactArmstrongTableWrong)

/-- 'laws.FnExactRowsToRemove': WHATEVER THE INPUT: true; the input reads as it did. -/
def fnExactRowsToRemoveSpec : ChangeSpec := { name := "fnExactRowsToRemove", fn := fun _ => fun
  | [d1, d2, d3] => { results := [.lit (.bool true)], args := [d1, d2, d3] }
  | _ => none }
def fnExactRowsToRemoveRow : OpenClaim := { program := "ytkanbnbofoabeaa", sum := "cacecd9c8ca8b756a56c6061bfae7b8bf0b1e5bac0dc948e33c92e1f9762c97e", func := "loop.example/g01988/laws.FnExactRowsToRemove", spec := "fnExactRowsToRemove", unfollowed := true, recurses := true, apart := false }
def FnExactRowsToRemoveSaid : Prop := fnExactRowsToRemoveRow.holds Try.pinned (OpenSpec.ofChange fnExactRowsToRemoveSpec)

/-- ITS FALSE NEIGHBOUR: 'it returns false'. Refute it at one input. -/
def fnExactRowsToRemoveWrong : ChangeSpec := { name := "fnExactRowsToRemove", fn := fun _ => fun
  | [d1, d2, d3] => { results := [.lit (.bool false)], args := [d1, d2, d3] }
  | _ => none }
def FnExactRowsToRemoveWrongFalsely : Prop := fnExactRowsToRemoveRow.holds Try.pinned (OpenSpec.ofChange fnExactRowsToRemoveWrong)

/-- 'laws.FnExactNewSearch': WHATEVER THE INPUT: true; the input reads as it did. -/
def fnExactNewSearchSpec : ChangeSpec := { name := "fnExactNewSearch", fn := fun _ => fun
  | [d1, d2] => { results := [.lit (.bool true)], args := [d1, d2] }
  | _ => none }
def fnExactNewSearchRow : OpenClaim := { program := "ytkanbnbofoabeaa", sum := "cacecd9c8ca8b756a56c6061bfae7b8bf0b1e5bac0dc948e33c92e1f9762c97e", func := "loop.example/g01988/laws.FnExactNewSearch", spec := "fnExactNewSearch", apart := false }
def FnExactNewSearchSaid : Prop := fnExactNewSearchRow.holds Try.pinned (OpenSpec.ofChange fnExactNewSearchSpec)

/-- ITS FALSE NEIGHBOUR: 'it returns false'. Refute it at one input. -/
def fnExactNewSearchWrong : ChangeSpec := { name := "fnExactNewSearch", fn := fun _ => fun
  | [d1, d2] => { results := [.lit (.bool false)], args := [d1, d2] }
  | _ => none }
def FnExactNewSearchWrongFalsely : Prop := fnExactNewSearchRow.holds Try.pinned (OpenSpec.ofChange fnExactNewSearchWrong)

/-- 'laws.FnExactIsSearch': WHATEVER THE INPUT: true; the input reads as it did. -/
def fnExactIsSearchSpec : ChangeSpec := { name := "fnExactIsSearch", fn := fun _ => fun
  | [d] => { results := [.lit (.bool true)], args := [d] }
  | _ => none }
def fnExactIsSearchRow : OpenClaim := { program := "ytkanbnbofoabeaa", sum := "cacecd9c8ca8b756a56c6061bfae7b8bf0b1e5bac0dc948e33c92e1f9762c97e", func := "loop.example/g01988/laws.FnExactIsSearch", spec := "fnExactIsSearch", unfollowed := true, recurses := true, apart := false }
def FnExactIsSearchSaid : Prop := fnExactIsSearchRow.holds Try.pinned (OpenSpec.ofChange fnExactIsSearchSpec)

/-- ITS FALSE NEIGHBOUR: 'it returns false'. Refute it at one input. -/
def fnExactIsSearchWrong : ChangeSpec := { name := "fnExactIsSearch", fn := fun _ => fun
  | [d] => { results := [.lit (.bool false)], args := [d] }
  | _ => none }
def FnExactIsSearchWrongFalsely : Prop := fnExactIsSearchRow.holds Try.pinned (OpenSpec.ofChange fnExactIsSearchWrong)

/-- 'laws.FnExactIsSearched': WHATEVER THE INPUT: true; the input reads as it did. -/
def fnExactIsSearchedSpec : ChangeSpec := { name := "fnExactIsSearched", fn := fun _ => fun
  | [d] => { results := [.lit (.bool true)], args := [d] }
  | _ => none }
def fnExactIsSearchedRow : OpenClaim := { program := "ytkanbnbofoabeaa", sum := "cacecd9c8ca8b756a56c6061bfae7b8bf0b1e5bac0dc948e33c92e1f9762c97e", func := "loop.example/g01988/laws.FnExactIsSearched", spec := "fnExactIsSearched", unfollowed := true, recurses := true, apart := false }
def FnExactIsSearchedSaid : Prop := fnExactIsSearchedRow.holds Try.pinned (OpenSpec.ofChange fnExactIsSearchedSpec)

/-- ITS FALSE NEIGHBOUR: 'it returns false'. Refute it at one input. -/
def fnExactIsSearchedWrong : ChangeSpec := { name := "fnExactIsSearched", fn := fun _ => fun
  | [d] => { results := [.lit (.bool false)], args := [d] }
  | _ => none }
def FnExactIsSearchedWrongFalsely : Prop := fnExactIsSearchedRow.holds Try.pinned (OpenSpec.ofChange fnExactIsSearchedWrong)

/-- 'laws.FnExactCandidateAt': WHATEVER THE INPUT: true; the input reads as it did. -/
def fnExactCandidateAtSpec : ChangeSpec := { name := "fnExactCandidateAt", fn := fun _ => fun
  | [d] => { results := [.lit (.bool true)], args := [d] }
  | _ => none }
def fnExactCandidateAtRow : OpenClaim := { program := "ytkanbnbofoabeaa", sum := "cacecd9c8ca8b756a56c6061bfae7b8bf0b1e5bac0dc948e33c92e1f9762c97e", func := "loop.example/g01988/laws.FnExactCandidateAt", spec := "fnExactCandidateAt", unfollowed := true, recurses := true, apart := false }
def FnExactCandidateAtSaid : Prop := fnExactCandidateAtRow.holds Try.pinned (OpenSpec.ofChange fnExactCandidateAtSpec)

/-- ITS FALSE NEIGHBOUR: 'it returns false'. Refute it at one input. -/
def fnExactCandidateAtWrong : ChangeSpec := { name := "fnExactCandidateAt", fn := fun _ => fun
  | [d] => { results := [.lit (.bool false)], args := [d] }
  | _ => none }
def FnExactCandidateAtWrongFalsely : Prop := fnExactCandidateAtRow.holds Try.pinned (OpenSpec.ofChange fnExactCandidateAtWrong)

/-- 'laws.FnExactApproximateDeps': WHATEVER THE INPUT: true; the input reads as it did. -/
def fnExactApproximateDepsSpec : ChangeSpec := { name := "fnExactApproximateDeps", fn := fun _ => fun
  | [d1, d2, d3] => { results := [.lit (.bool true)], args := [d1, d2, d3] }
  | _ => none }
def fnExactApproximateDepsRow : OpenClaim := { program := "ytkanbnbofoabeaa", sum := "cacecd9c8ca8b756a56c6061bfae7b8bf0b1e5bac0dc948e33c92e1f9762c97e", func := "loop.example/g01988/laws.FnExactApproximateDeps", spec := "fnExactApproximateDeps", unfollowed := true, recurses := true, apart := false }
def FnExactApproximateDepsSaid : Prop := fnExactApproximateDepsRow.holds Try.pinned (OpenSpec.ofChange fnExactApproximateDepsSpec)

/-- ITS FALSE NEIGHBOUR: 'it returns false'. Refute it at one input. -/
def fnExactApproximateDepsWrong : ChangeSpec := { name := "fnExactApproximateDeps", fn := fun _ => fun
  | [d1, d2, d3] => { results := [.lit (.bool false)], args := [d1, d2, d3] }
  | _ => none }
def FnExactApproximateDepsWrongFalsely : Prop := fnExactApproximateDepsRow.holds Try.pinned (OpenSpec.ofChange fnExactApproximateDepsWrong)

/-- 'laws.FnExactRunSearch': WHATEVER THE INPUT: true; the input reads as it did. -/
def fnExactRunSearchSpec : ChangeSpec := { name := "fnExactRunSearch", fn := fun _ => fun
  | [d1, d2] => { results := [.lit (.bool true)], args := [d1, d2] }
  | _ => none }
def fnExactRunSearchRow : OpenClaim := { program := "ytkanbnbofoabeaa", sum := "cacecd9c8ca8b756a56c6061bfae7b8bf0b1e5bac0dc948e33c92e1f9762c97e", func := "loop.example/g01988/laws.FnExactRunSearch", spec := "fnExactRunSearch", unfollowed := true, recurses := true, apart := false }
def FnExactRunSearchSaid : Prop := fnExactRunSearchRow.holds Try.pinned (OpenSpec.ofChange fnExactRunSearchSpec)

/-- ITS FALSE NEIGHBOUR: 'it returns false'. Refute it at one input. -/
def fnExactRunSearchWrong : ChangeSpec := { name := "fnExactRunSearch", fn := fun _ => fun
  | [d1, d2] => { results := [.lit (.bool false)], args := [d1, d2] }
  | _ => none }
def FnExactRunSearchWrongFalsely : Prop := fnExactRunSearchRow.holds Try.pinned (OpenSpec.ofChange fnExactRunSearchWrong)

/-- 'laws.FnExactMinimalKeys': WHATEVER THE INPUT: true; the input reads as it did. -/
def fnExactMinimalKeysSpec : ChangeSpec := { name := "fnExactMinimalKeys", fn := fun _ => fun
  | [d1, d2] => { results := [.lit (.bool true)], args := [d1, d2] }
  | _ => none }
def fnExactMinimalKeysRow : OpenClaim := { program := "ytkanbnbofoabeaa", sum := "cacecd9c8ca8b756a56c6061bfae7b8bf0b1e5bac0dc948e33c92e1f9762c97e", func := "loop.example/g01988/laws.FnExactMinimalKeys", spec := "fnExactMinimalKeys", unfollowed := true, recurses := true, apart := false }
def FnExactMinimalKeysSaid : Prop := fnExactMinimalKeysRow.holds Try.pinned (OpenSpec.ofChange fnExactMinimalKeysSpec)

/-- ITS FALSE NEIGHBOUR: 'it returns false'. Refute it at one input. -/
def fnExactMinimalKeysWrong : ChangeSpec := { name := "fnExactMinimalKeys", fn := fun _ => fun
  | [d1, d2] => { results := [.lit (.bool false)], args := [d1, d2] }
  | _ => none }
def FnExactMinimalKeysWrongFalsely : Prop := fnExactMinimalKeysRow.holds Try.pinned (OpenSpec.ofChange fnExactMinimalKeysWrong)

/-- 'laws.FnExactDepsByTransversals': WHATEVER THE INPUT: true; the input reads as it did. -/
def fnExactDepsByTransversalsSpec : ChangeSpec := { name := "fnExactDepsByTransversals", fn := fun _ => fun
  | [d1, d2] => { results := [.lit (.bool true)], args := [d1, d2] }
  | _ => none }
def fnExactDepsByTransversalsRow : OpenClaim := { program := "ytkanbnbofoabeaa", sum := "cacecd9c8ca8b756a56c6061bfae7b8bf0b1e5bac0dc948e33c92e1f9762c97e", func := "loop.example/g01988/laws.FnExactDepsByTransversals", spec := "fnExactDepsByTransversals", unfollowed := true, recurses := true, apart := false }
def FnExactDepsByTransversalsSaid : Prop := fnExactDepsByTransversalsRow.holds Try.pinned (OpenSpec.ofChange fnExactDepsByTransversalsSpec)

/-- ITS FALSE NEIGHBOUR: 'it returns false'. Refute it at one input. -/
def fnExactDepsByTransversalsWrong : ChangeSpec := { name := "fnExactDepsByTransversals", fn := fun _ => fun
  | [d1, d2] => { results := [.lit (.bool false)], args := [d1, d2] }
  | _ => none }
def FnExactDepsByTransversalsWrongFalsely : Prop := fnExactDepsByTransversalsRow.holds Try.pinned (OpenSpec.ofChange fnExactDepsByTransversalsWrong)

/- THE SECOND FORM. 'bulk': how many values and letters a reading holds, each counted each time it is reached (what is shared counts as often as it is met; a slice's spare places count too). A statement '..UptoSaid' is the law's where the arguments, and the package variables that the reading takes, are together of bulk at most 1048576: NARROWER than '..Said'. Prove '..Said' where nothing that the law and all that it calls make is longer than what came in: it says more and counts as full. Else prove '..UptoSaid'. A law counts once. -/
mutual
def uptoBulk {H : Type} : DataW H → Nat
  | .lit (.string bytes) => bytes.length + 1
  | .lit _ => 1
  | .nil => 1
  | .ptr d => uptoBulk d + 1
  | .slice elems spare => uptoBulkAll elems + uptoBulkAll spare + 1
  | .agg parts => uptoBulkAll parts + 1
  | .iface _ d => uptoBulk d + 1
  | .map entries => uptoBulkEntries entries + 1
  | .held _ => 1
def uptoBulkAll {H : Type} : List (DataW H) → Nat
  | [] => 0
  | d :: r => uptoBulk d + uptoBulkAll r
def uptoBulkEntries {H : Type} : List (Lit × DataW H) → Nat
  | [] => 0
  | x :: r => uptoBulkEntry x + uptoBulkEntries r
def uptoBulkEntry {H : Type} : Lit × DataW H → Nat
  | (.string bytes, d) => bytes.length + uptoBulk d + 1
  | (_, d) => uptoBulk d + 1
 end
def uptoSmall : (H : Type) → List (DataW H) → Bool := fun _ ds => decide (uptoBulkAll ds ≤ 1048576)
def OpenSpec.upto (s : _root_.Go.ChangeSpec) : _root_.Go.OpenSpec := { _root_.Go.OpenSpec.ofChange s with cond := some uptoSmall }

/-- 'laws.FnExactCounterTable', WHERE WHAT IT READS IS OF BULK AT MOST 1048576: true; the input reads as it did. -/
def fnExactCounterTableUptoRow : OpenClaim := { program := "ytkanbnbofoabeaa", sum := "cacecd9c8ca8b756a56c6061bfae7b8bf0b1e5bac0dc948e33c92e1f9762c97e", func := "loop.example/g01988/laws.FnExactCounterTable", spec := "fnExactCounterTable", apart := false, narrowed := true }
def FnExactCounterTableUptoSaid : Prop := fnExactCounterTableUptoRow.holds Try.pinned (OpenSpec.upto fnExactCounterTableSpec)

/-- 'laws.FnExactIsUnique', WHERE WHAT IT READS IS OF BULK AT MOST 1048576: true; the input reads as it did. -/
def fnExactIsUniqueUptoRow : OpenClaim := { program := "ytkanbnbofoabeaa", sum := "cacecd9c8ca8b756a56c6061bfae7b8bf0b1e5bac0dc948e33c92e1f9762c97e", func := "loop.example/g01988/laws.FnExactIsUnique", spec := "fnExactIsUnique", unfollowed := true, recurses := true, apart := false, narrowed := true }
def FnExactIsUniqueUptoSaid : Prop := fnExactIsUniqueUptoRow.holds Try.pinned (OpenSpec.upto fnExactIsUniqueSpec)

/-- 'laws.FnExactEqualSearches', WHERE WHAT IT READS IS OF BULK AT MOST 1048576: true; the input reads as it did. -/
def fnExactEqualSearchesUptoRow : OpenClaim := { program := "ytkanbnbofoabeaa", sum := "cacecd9c8ca8b756a56c6061bfae7b8bf0b1e5bac0dc948e33c92e1f9762c97e", func := "loop.example/g01988/laws.FnExactEqualSearches", spec := "fnExactEqualSearches", unfollowed := true, recurses := true, apart := false, narrowed := true }
def FnExactEqualSearchesUptoSaid : Prop := fnExactEqualSearchesUptoRow.holds Try.pinned (OpenSpec.upto fnExactEqualSearchesSpec)

/-- 'laws.FnExactArmstrongTable', WHERE WHAT IT READS IS OF BULK AT MOST 1048576: true; the input reads as it did. -/
def fnExactArmstrongTableUptoRow : OpenClaim := { program := "ytkanbnbofoabeaa", sum := "cacecd9c8ca8b756a56c6061bfae7b8bf0b1e5bac0dc948e33c92e1f9762c97e", func := "loop.example/g01988/laws.FnExactArmstrongTable", spec := "fnExactArmstrongTable", apart := false, narrowed := true }
def FnExactArmstrongTableUptoSaid : Prop := fnExactArmstrongTableUptoRow.holds Try.pinned (OpenSpec.upto fnExactArmstrongTableSpec)

/-- 'laws.FnExactRowsToRemove', WHERE WHAT IT READS IS OF BULK AT MOST 1048576: true; the input reads as it did. -/
def fnExactRowsToRemoveUptoRow : OpenClaim := { program := "ytkanbnbofoabeaa", sum := "cacecd9c8ca8b756a56c6061bfae7b8bf0b1e5bac0dc948e33c92e1f9762c97e", func := "loop.example/g01988/laws.FnExactRowsToRemove", spec := "fnExactRowsToRemove", unfollowed := true, recurses := true, apart := false, narrowed := true }
def FnExactRowsToRemoveUptoSaid : Prop := fnExactRowsToRemoveUptoRow.holds Try.pinned (OpenSpec.upto fnExactRowsToRemoveSpec)

/-- 'laws.FnExactNewSearch', WHERE WHAT IT READS IS OF BULK AT MOST 1048576: true; the input reads as it did. -/
def fnExactNewSearchUptoRow : OpenClaim := { program := "ytkanbnbofoabeaa", sum := "cacecd9c8ca8b756a56c6061bfae7b8bf0b1e5bac0dc948e33c92e1f9762c97e", func := "loop.example/g01988/laws.FnExactNewSearch", spec := "fnExactNewSearch", apart := false, narrowed := true }
def FnExactNewSearchUptoSaid : Prop := fnExactNewSearchUptoRow.holds Try.pinned (OpenSpec.upto fnExactNewSearchSpec)

/-- 'laws.FnExactIsSearch', WHERE WHAT IT READS IS OF BULK AT MOST 1048576: true; the input reads as it did. -/
def fnExactIsSearchUptoRow : OpenClaim := { program := "ytkanbnbofoabeaa", sum := "cacecd9c8ca8b756a56c6061bfae7b8bf0b1e5bac0dc948e33c92e1f9762c97e", func := "loop.example/g01988/laws.FnExactIsSearch", spec := "fnExactIsSearch", unfollowed := true, recurses := true, apart := false, narrowed := true }
def FnExactIsSearchUptoSaid : Prop := fnExactIsSearchUptoRow.holds Try.pinned (OpenSpec.upto fnExactIsSearchSpec)

/-- 'laws.FnExactIsSearched', WHERE WHAT IT READS IS OF BULK AT MOST 1048576: true; the input reads as it did. -/
def fnExactIsSearchedUptoRow : OpenClaim := { program := "ytkanbnbofoabeaa", sum := "cacecd9c8ca8b756a56c6061bfae7b8bf0b1e5bac0dc948e33c92e1f9762c97e", func := "loop.example/g01988/laws.FnExactIsSearched", spec := "fnExactIsSearched", unfollowed := true, recurses := true, apart := false, narrowed := true }
def FnExactIsSearchedUptoSaid : Prop := fnExactIsSearchedUptoRow.holds Try.pinned (OpenSpec.upto fnExactIsSearchedSpec)

/-- 'laws.FnExactCandidateAt', WHERE WHAT IT READS IS OF BULK AT MOST 1048576: true; the input reads as it did. -/
def fnExactCandidateAtUptoRow : OpenClaim := { program := "ytkanbnbofoabeaa", sum := "cacecd9c8ca8b756a56c6061bfae7b8bf0b1e5bac0dc948e33c92e1f9762c97e", func := "loop.example/g01988/laws.FnExactCandidateAt", spec := "fnExactCandidateAt", unfollowed := true, recurses := true, apart := false, narrowed := true }
def FnExactCandidateAtUptoSaid : Prop := fnExactCandidateAtUptoRow.holds Try.pinned (OpenSpec.upto fnExactCandidateAtSpec)

/-- 'laws.FnExactApproximateDeps', WHERE WHAT IT READS IS OF BULK AT MOST 1048576: true; the input reads as it did. -/
def fnExactApproximateDepsUptoRow : OpenClaim := { program := "ytkanbnbofoabeaa", sum := "cacecd9c8ca8b756a56c6061bfae7b8bf0b1e5bac0dc948e33c92e1f9762c97e", func := "loop.example/g01988/laws.FnExactApproximateDeps", spec := "fnExactApproximateDeps", unfollowed := true, recurses := true, apart := false, narrowed := true }
def FnExactApproximateDepsUptoSaid : Prop := fnExactApproximateDepsUptoRow.holds Try.pinned (OpenSpec.upto fnExactApproximateDepsSpec)

/-- 'laws.FnExactRunSearch', WHERE WHAT IT READS IS OF BULK AT MOST 1048576: true; the input reads as it did. -/
def fnExactRunSearchUptoRow : OpenClaim := { program := "ytkanbnbofoabeaa", sum := "cacecd9c8ca8b756a56c6061bfae7b8bf0b1e5bac0dc948e33c92e1f9762c97e", func := "loop.example/g01988/laws.FnExactRunSearch", spec := "fnExactRunSearch", unfollowed := true, recurses := true, apart := false, narrowed := true }
def FnExactRunSearchUptoSaid : Prop := fnExactRunSearchUptoRow.holds Try.pinned (OpenSpec.upto fnExactRunSearchSpec)

/-- 'laws.FnExactMinimalKeys', WHERE WHAT IT READS IS OF BULK AT MOST 1048576: true; the input reads as it did. -/
def fnExactMinimalKeysUptoRow : OpenClaim := { program := "ytkanbnbofoabeaa", sum := "cacecd9c8ca8b756a56c6061bfae7b8bf0b1e5bac0dc948e33c92e1f9762c97e", func := "loop.example/g01988/laws.FnExactMinimalKeys", spec := "fnExactMinimalKeys", unfollowed := true, recurses := true, apart := false, narrowed := true }
def FnExactMinimalKeysUptoSaid : Prop := fnExactMinimalKeysUptoRow.holds Try.pinned (OpenSpec.upto fnExactMinimalKeysSpec)

/-- 'laws.FnExactDepsByTransversals', WHERE WHAT IT READS IS OF BULK AT MOST 1048576: true; the input reads as it did. -/
def fnExactDepsByTransversalsUptoRow : OpenClaim := { program := "ytkanbnbofoabeaa", sum := "cacecd9c8ca8b756a56c6061bfae7b8bf0b1e5bac0dc948e33c92e1f9762c97e", func := "loop.example/g01988/laws.FnExactDepsByTransversals", spec := "fnExactDepsByTransversals", unfollowed := true, recurses := true, apart := false, narrowed := true }
def FnExactDepsByTransversalsUptoSaid : Prop := fnExactDepsByTransversalsUptoRow.holds Try.pinned (OpenSpec.upto fnExactDepsByTransversalsSpec)

end Rows
end Go.Proofs.Ytkanbnbofoabeaa
