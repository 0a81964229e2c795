/-
  No cell of these rows narrows 'for every input' (looked for: loops, veiled, ifaces, maps, wideKeys, modest, calm, conditions, laid).
  DERIVED. THE GIVEN ROWS OF THIS SEAT. 12 by the template 'for every input the law returns true; each argument reads behind the call as it read before'; 0 by the template 'total and deterministic' (their statements: YtjgfndbgenhjbaaTotals.lean).
  GIVEN WITH THE SEED: the statements are not yours to turn. If you find one false, say at which input.
  Laid BY PROGRAM, IN A SANDBOX (cutbox-rows.mjs): the forced cells as the released guide's own fill.sh prints them over the translation 1bb6e8e2d017e1de… (all of the seat's roots in one cut). By AI agents, Wed Nov 11 2026. No macro, syntax, notation, axiom, sorry.
-/
import Derived.Test.YtjgfndbgenhjbaaChecked
import GoSem.Claim
import GoSem.ClaimJoined
import GoSem.ClaimMapViews
import Derived.JoinedTies
import Derived.KernelRfl
namespace Go.Proofs.Ytjgfndbgenhjbaa
/- THE CELL 'sum', in the pinned program and in every row, IS THE sha256 OF THE DUMP (.gsa) THAT YtjgfndbgenhjbaaProg.lean LOADS. Nothing in Lean hashes anything: it is a label: what it is worth is what the hold of that sum in a sandbox is worth. -/
noncomputable def Try.pinned : Pinned := { name := "ytjgfndbgenhjbaa", sum := "1bb6e8e2d017e1de6139ad79239bd7e4b1c7d3383bd6c923b39aca7499004901", checked := Try.checked }
namespace Rows
def none {H : Type} : Left H := { results := [], args := [] }

/-- 'laws.FnExactCounterTable': WHATEVER THE INPUT: true; the input reads as it did. -/
def fnExactCounterTableSpec : ChangeSpec := { name := "fnExactCounterTable", fn := fun _ => fun
  | [d1, d2, d3] => { results := [.lit (.bool true)], args := [d1, d2, d3] }
  | _ => none }
def fnExactCounterTableRow : OpenClaim := { program := "ytjgfndbgenhjbaa", sum := "1bb6e8e2d017e1de6139ad79239bd7e4b1c7d3383bd6c923b39aca7499004901", func := "loop.example/g01988/laws.FnExactCounterTable", spec := "fnExactCounterTable", apart := false }
def FnExactCounterTableSaid : Prop := fnExactCounterTableRow.holds Try.pinned (OpenSpec.ofChange fnExactCounterTableSpec)

/-- ITS FALSE NEIGHBOUR: 'it returns false'. Refute it at one input. -/
def fnExactCounterTableWrong : ChangeSpec := { name := "fnExactCounterTable", fn := fun _ => fun
  | [d1, d2, d3] => { results := [.lit (.bool false)], args := [d1, d2, d3] }
  | _ => none }
def FnExactCounterTableWrongFalsely : Prop := fnExactCounterTableRow.holds Try.pinned (OpenSpec.ofChange fnExactCounterTableWrong)

/-- 'laws.FnExactIsUnique': WHATEVER THE INPUT: true; the input reads as it did. -/
def fnExactIsUniqueSpec : ChangeSpec := { name := "fnExactIsUnique", fn := fun _ => fun
  | [d1, d2, d3] => { results := [.lit (.bool true)], args := [d1, d2, d3] }
  | _ => none }
def fnExactIsUniqueRow : OpenClaim := { program := "ytjgfndbgenhjbaa", sum := "1bb6e8e2d017e1de6139ad79239bd7e4b1c7d3383bd6c923b39aca7499004901", func := "loop.example/g01988/laws.FnExactIsUnique", spec := "fnExactIsUnique", unfollowed := true, recurses := true, apart := false }
def FnExactIsUniqueSaid : Prop := fnExactIsUniqueRow.holds Try.pinned (OpenSpec.ofChange fnExactIsUniqueSpec)

/-- ITS FALSE NEIGHBOUR: 'it returns false'. Refute it at one input. -/
def fnExactIsUniqueWrong : ChangeSpec := { name := "fnExactIsUnique", fn := fun _ => fun
  | [d1, d2, d3] => { results := [.lit (.bool false)], args := [d1, d2, d3] }
  | _ => none }
def FnExactIsUniqueWrongFalsely : Prop := fnExactIsUniqueRow.holds Try.pinned (OpenSpec.ofChange fnExactIsUniqueWrong)

/-- 'laws.FnExactIsMinimalDep': WHATEVER THE INPUT: true; the input reads as it did. -/
def fnExactIsMinimalDepSpec : ChangeSpec := { name := "fnExactIsMinimalDep", fn := fun _ => fun
  | [d1, d2, d3] => { results := [.lit (.bool true)], args := [d1, d2, d3] }
  | _ => none }
def fnExactIsMinimalDepRow : OpenClaim := { program := "ytjgfndbgenhjbaa", sum := "1bb6e8e2d017e1de6139ad79239bd7e4b1c7d3383bd6c923b39aca7499004901", func := "loop.example/g01988/laws.FnExactIsMinimalDep", spec := "fnExactIsMinimalDep", apart := false }
def FnExactIsMinimalDepSaid : Prop := fnExactIsMinimalDepRow.holds Try.pinned (OpenSpec.ofChange fnExactIsMinimalDepSpec)

/-- ITS FALSE NEIGHBOUR: 'it returns false'. Refute it at one input. -/
def fnExactIsMinimalDepWrong : ChangeSpec := { name := "fnExactIsMinimalDep", fn := fun _ => fun
  | [d1, d2, d3] => { results := [.lit (.bool false)], args := [d1, d2, d3] }
  | _ => none }
def FnExactIsMinimalDepWrongFalsely : Prop := fnExactIsMinimalDepRow.holds Try.pinned (OpenSpec.ofChange fnExactIsMinimalDepWrong)

/-- 'laws.FnExactSatisfiesAll': WHATEVER THE INPUT: true; the input reads as it did. -/
def fnExactSatisfiesAllSpec : ChangeSpec := { name := "fnExactSatisfiesAll", fn := fun _ => fun
  | [d1, d2, d3] => { results := [.lit (.bool true)], args := [d1, d2, d3] }
  | _ => none }
def fnExactSatisfiesAllRow : OpenClaim := { program := "ytjgfndbgenhjbaa", sum := "1bb6e8e2d017e1de6139ad79239bd7e4b1c7d3383bd6c923b39aca7499004901", func := "loop.example/g01988/laws.FnExactSatisfiesAll", spec := "fnExactSatisfiesAll", apart := false }
def FnExactSatisfiesAllSaid : Prop := fnExactSatisfiesAllRow.holds Try.pinned (OpenSpec.ofChange fnExactSatisfiesAllSpec)

/-- ITS FALSE NEIGHBOUR: 'it returns false'. Refute it at one input. -/
def fnExactSatisfiesAllWrong : ChangeSpec := { name := "fnExactSatisfiesAll", fn := fun _ => fun
  | [d1, d2, d3] => { results := [.lit (.bool false)], args := [d1, d2, d3] }
  | _ => none }
def FnExactSatisfiesAllWrongFalsely : Prop := fnExactSatisfiesAllRow.holds Try.pinned (OpenSpec.ofChange fnExactSatisfiesAllWrong)

/-- 'laws.FnExactRowsToRemove': WHATEVER THE INPUT: true; the input reads as it did. -/
def fnExactRowsToRemoveSpec : ChangeSpec := { name := "fnExactRowsToRemove", fn := fun _ => fun
  | [d1, d2, d3] => { results := [.lit (.bool true)], args := [d1, d2, d3] }
  | _ => none }
def fnExactRowsToRemoveRow : OpenClaim := { program := "ytjgfndbgenhjbaa", sum := "1bb6e8e2d017e1de6139ad79239bd7e4b1c7d3383bd6c923b39aca7499004901", func := "loop.example/g01988/laws.FnExactRowsToRemove", spec := "fnExactRowsToRemove", unfollowed := true, recurses := true, apart := false }
def FnExactRowsToRemoveSaid : Prop := fnExactRowsToRemoveRow.holds Try.pinned (OpenSpec.ofChange fnExactRowsToRemoveSpec)

/-- ITS FALSE NEIGHBOUR: 'it returns false'. Refute it at one input. -/
def fnExactRowsToRemoveWrong : ChangeSpec := { name := "fnExactRowsToRemove", fn := fun _ => fun
  | [d1, d2, d3] => { results := [.lit (.bool false)], args := [d1, d2, d3] }
  | _ => none }
def FnExactRowsToRemoveWrongFalsely : Prop := fnExactRowsToRemoveRow.holds Try.pinned (OpenSpec.ofChange fnExactRowsToRemoveWrong)

/-- 'laws.FnExactArmstrongTable': WHATEVER THE INPUT: true; the input reads as it did. -/
def fnExactArmstrongTableSpec : ChangeSpec := { name := "fnExactArmstrongTable", fn := fun _ => fun
  | [d1, d2] => { results := [.lit (.bool true)], args := [d1, d2] }
  | _ => none }
def fnExactArmstrongTableRow : OpenClaim := { program := "ytjgfndbgenhjbaa", sum := "1bb6e8e2d017e1de6139ad79239bd7e4b1c7d3383bd6c923b39aca7499004901", func := "loop.example/g01988/laws.FnExactArmstrongTable", spec := "fnExactArmstrongTable", apart := false }
def FnExactArmstrongTableSaid : Prop := fnExactArmstrongTableRow.holds Try.pinned (OpenSpec.ofChange fnExactArmstrongTableSpec)

/-- ITS FALSE NEIGHBOUR: 'it returns false'. Refute it at one input. -/
def fnExactArmstrongTableWrong : ChangeSpec := { name := "fnExactArmstrongTable", fn := fun _ => fun
  | [d1, d2] => { results := [.lit (.bool false)], args := [d1, d2] }
  | _ => none }
def FnExactArmstrongTableWrongFalsely : Prop := fnExactArmstrongTableRow.holds Try.pinned (OpenSpec.ofChange fnExactArmstrongTableWrong)

/-- 'laws.FnExactEqualSearches': WHATEVER THE INPUT: true; the input reads as it did. -/
def fnExactEqualSearchesSpec : ChangeSpec := { name := "fnExactEqualSearches", fn := fun _ => fun
  | [d1, d2] => { results := [.lit (.bool true)], args := [d1, d2] }
  | _ => none }
def fnExactEqualSearchesRow : OpenClaim := { program := "ytjgfndbgenhjbaa", sum := "1bb6e8e2d017e1de6139ad79239bd7e4b1c7d3383bd6c923b39aca7499004901", func := "loop.example/g01988/laws.FnExactEqualSearches", spec := "fnExactEqualSearches", unfollowed := true, recurses := true, apart := false }
def FnExactEqualSearchesSaid : Prop := fnExactEqualSearchesRow.holds Try.pinned (OpenSpec.ofChange fnExactEqualSearchesSpec)

/-- ITS FALSE NEIGHBOUR: 'it returns false'. Refute it at one input. -/
def fnExactEqualSearchesWrong : ChangeSpec := { name := "fnExactEqualSearches", fn := fun _ => fun
  | [d1, d2] => { results := [.lit (.bool false)], args := [d1, d2] }
  | _ => none }
def FnExactEqualSearchesWrongFalsely : Prop := fnExactEqualSearchesRow.holds Try.pinned (OpenSpec.ofChange fnExactEqualSearchesWrong)

/-- 'laws.FnExactKeysOf': WHATEVER THE INPUT: true; the input reads as it did. -/
def fnExactKeysOfSpec : ChangeSpec := { name := "fnExactKeysOf", fn := fun _ => fun
  | [d1, d2] => { results := [.lit (.bool true)], args := [d1, d2] }
  | _ => none }
def fnExactKeysOfRow : OpenClaim := { program := "ytjgfndbgenhjbaa", sum := "1bb6e8e2d017e1de6139ad79239bd7e4b1c7d3383bd6c923b39aca7499004901", func := "loop.example/g01988/laws.FnExactKeysOf", spec := "fnExactKeysOf", recurses := true, apart := false }
def FnExactKeysOfSaid : Prop := fnExactKeysOfRow.holds Try.pinned (OpenSpec.ofChange fnExactKeysOfSpec)

/-- ITS FALSE NEIGHBOUR: 'it returns false'. Refute it at one input. -/
def fnExactKeysOfWrong : ChangeSpec := { name := "fnExactKeysOf", fn := fun _ => fun
  | [d1, d2] => { results := [.lit (.bool false)], args := [d1, d2] }
  | _ => none }
def FnExactKeysOfWrongFalsely : Prop := fnExactKeysOfRow.holds Try.pinned (OpenSpec.ofChange fnExactKeysOfWrong)

/-- 'laws.FnExactPrimeColumns': WHATEVER THE INPUT: true; the input reads as it did. -/
def fnExactPrimeColumnsSpec : ChangeSpec := { name := "fnExactPrimeColumns", fn := fun _ => fun
  | [d1, d2] => { results := [.lit (.bool true)], args := [d1, d2] }
  | _ => none }
def fnExactPrimeColumnsRow : OpenClaim := { program := "ytjgfndbgenhjbaa", sum := "1bb6e8e2d017e1de6139ad79239bd7e4b1c7d3383bd6c923b39aca7499004901", func := "loop.example/g01988/laws.FnExactPrimeColumns", spec := "fnExactPrimeColumns", recurses := true, apart := false }
def FnExactPrimeColumnsSaid : Prop := fnExactPrimeColumnsRow.holds Try.pinned (OpenSpec.ofChange fnExactPrimeColumnsSpec)

/-- ITS FALSE NEIGHBOUR: 'it returns false'. Refute it at one input. -/
def fnExactPrimeColumnsWrong : ChangeSpec := { name := "fnExactPrimeColumns", fn := fun _ => fun
  | [d1, d2] => { results := [.lit (.bool false)], args := [d1, d2] }
  | _ => none }
def FnExactPrimeColumnsWrongFalsely : Prop := fnExactPrimeColumnsRow.holds Try.pinned (OpenSpec.ofChange fnExactPrimeColumnsWrong)

/-- 'laws.FnExactTransversals': WHATEVER THE INPUT: true; the input reads as it did. -/
def fnExactTransversalsSpec : ChangeSpec := { name := "fnExactTransversals", fn := fun _ => fun
  | [d1, d2] => { results := [.lit (.bool true)], args := [d1, d2] }
  | _ => none }
def fnExactTransversalsRow : OpenClaim := { program := "ytjgfndbgenhjbaa", sum := "1bb6e8e2d017e1de6139ad79239bd7e4b1c7d3383bd6c923b39aca7499004901", func := "loop.example/g01988/laws.FnExactTransversals", spec := "fnExactTransversals", recurses := true, apart := false }
def FnExactTransversalsSaid : Prop := fnExactTransversalsRow.holds Try.pinned (OpenSpec.ofChange fnExactTransversalsSpec)

/-- ITS FALSE NEIGHBOUR: 'it returns false'. Refute it at one input. -/
def fnExactTransversalsWrong : ChangeSpec := { name := "fnExactTransversals", fn := fun _ => fun
  | [d1, d2] => { results := [.lit (.bool false)], args := [d1, d2] }
  | _ => none }
def FnExactTransversalsWrongFalsely : Prop := fnExactTransversalsRow.holds Try.pinned (OpenSpec.ofChange fnExactTransversalsWrong)

/-- 'laws.FnExactGrowTransversals': WHATEVER THE INPUT: true; the input reads as it did. -/
def fnExactGrowTransversalsSpec : ChangeSpec := { name := "fnExactGrowTransversals", fn := fun _ => fun
  | [d1, d2] => { results := [.lit (.bool true)], args := [d1, d2] }
  | _ => none }
def fnExactGrowTransversalsRow : OpenClaim := { program := "ytjgfndbgenhjbaa", sum := "1bb6e8e2d017e1de6139ad79239bd7e4b1c7d3383bd6c923b39aca7499004901", func := "loop.example/g01988/laws.FnExactGrowTransversals", spec := "fnExactGrowTransversals", recurses := true, apart := false }
def FnExactGrowTransversalsSaid : Prop := fnExactGrowTransversalsRow.holds Try.pinned (OpenSpec.ofChange fnExactGrowTransversalsSpec)

/-- ITS FALSE NEIGHBOUR: 'it returns false'. Refute it at one input. -/
def fnExactGrowTransversalsWrong : ChangeSpec := { name := "fnExactGrowTransversals", fn := fun _ => fun
  | [d1, d2] => { results := [.lit (.bool false)], args := [d1, d2] }
  | _ => none }
def FnExactGrowTransversalsWrongFalsely : Prop := fnExactGrowTransversalsRow.holds Try.pinned (OpenSpec.ofChange fnExactGrowTransversalsWrong)

/-- 'laws.FnExactNewSearch': WHATEVER THE INPUT: true; the input reads as it did. -/
def fnExactNewSearchSpec : ChangeSpec := { name := "fnExactNewSearch", fn := fun _ => fun
  | [d1, d2] => { results := [.lit (.bool true)], args := [d1, d2] }
  | _ => none }
def fnExactNewSearchRow : OpenClaim := { program := "ytjgfndbgenhjbaa", sum := "1bb6e8e2d017e1de6139ad79239bd7e4b1c7d3383bd6c923b39aca7499004901", func := "loop.example/g01988/laws.FnExactNewSearch", spec := "fnExactNewSearch", apart := false }
def FnExactNewSearchSaid : Prop := fnExactNewSearchRow.holds Try.pinned (OpenSpec.ofChange fnExactNewSearchSpec)

/-- ITS FALSE NEIGHBOUR: 'it returns false'. Refute it at one input. -/
def fnExactNewSearchWrong : ChangeSpec := { name := "fnExactNewSearch", fn := fun _ => fun
  | [d1, d2] => { results := [.lit (.bool false)], args := [d1, d2] }
  | _ => none }
def FnExactNewSearchWrongFalsely : Prop := fnExactNewSearchRow.holds Try.pinned (OpenSpec.ofChange fnExactNewSearchWrong)

/- THE SECOND FORM. 'bulk': how many values and letters a reading holds, each counted each time it is reached (what is shared counts as often as it is met; a slice's spare places count too). A statement '..UptoSaid' is the law's where the arguments, and the package variables that the reading takes, are together of bulk at most 1048576: NARROWER than '..Said'. Prove '..Said' where nothing that the law and all that it calls make is longer than what came in: it says more and counts as full. Else prove '..UptoSaid'. A law counts once. -/
mutual
def uptoBulk {H : Type} : DataW H → Nat
  | .lit (.string bytes) => bytes.length + 1
  | .lit _ => 1
  | .nil => 1
  | .ptr d => uptoBulk d + 1
  | .slice elems spare => uptoBulkAll elems + uptoBulkAll spare + 1
  | .agg parts => uptoBulkAll parts + 1
  | .iface _ d => uptoBulk d + 1
  | .map entries => uptoBulkEntries entries + 1
  | .held _ => 1
def uptoBulkAll {H : Type} : List (DataW H) → Nat
  | [] => 0
  | d :: r => uptoBulk d + uptoBulkAll r
def uptoBulkEntries {H : Type} : List (Lit × DataW H) → Nat
  | [] => 0
  | x :: r => uptoBulkEntry x + uptoBulkEntries r
def uptoBulkEntry {H : Type} : Lit × DataW H → Nat
  | (.string bytes, d) => bytes.length + uptoBulk d + 1
  | (_, d) => uptoBulk d + 1
 end
def uptoSmall : (H : Type) → List (DataW H) → Bool := fun _ ds => decide (uptoBulkAll ds ≤ 1048576)
def OpenSpec.upto (s : _root_.Go.ChangeSpec) : _root_.Go.OpenSpec := { _root_.Go.OpenSpec.ofChange s with cond := some uptoSmall }

/-- 'laws.FnExactCounterTable', WHERE WHAT IT READS IS OF BULK AT MOST 1048576: true; the input reads as it did. -/
def fnExactCounterTableUptoRow : OpenClaim := { program := "ytjgfndbgenhjbaa", sum := "1bb6e8e2d017e1de6139ad79239bd7e4b1c7d3383bd6c923b39aca7499004901", func := "loop.example/g01988/laws.FnExactCounterTable", spec := "fnExactCounterTable", apart := false, narrowed := true }
def FnExactCounterTableUptoSaid : Prop := fnExactCounterTableUptoRow.holds Try.pinned (OpenSpec.upto fnExactCounterTableSpec)

/-- 'laws.FnExactIsUnique', WHERE WHAT IT READS IS OF BULK AT MOST 1048576: true; the input reads as it did. -/
def fnExactIsUniqueUptoRow : OpenClaim := { program := "ytjgfndbgenhjbaa", sum := "1bb6e8e2d017e1de6139ad79239bd7e4b1c7d3383bd6c923b39aca7499004901", func := "loop.example/g01988/laws.FnExactIsUnique", spec := "fnExactIsUnique", unfollowed := true, recurses := true, apart := false, narrowed := true }
def FnExactIsUniqueUptoSaid : Prop := fnExactIsUniqueUptoRow.holds Try.pinned (OpenSpec.upto fnExactIsUniqueSpec)

/-- 'laws.FnExactIsMinimalDep', WHERE WHAT IT READS IS OF BULK AT MOST 1048576: true; the input reads as it did. -/
def fnExactIsMinimalDepUptoRow : OpenClaim := { program := "ytjgfndbgenhjbaa", sum := "1bb6e8e2d017e1de6139ad79239bd7e4b1c7d3383bd6c923b39aca7499004901", func := "loop.example/g01988/laws.FnExactIsMinimalDep", spec := "fnExactIsMinimalDep", apart := false, narrowed := true }
def FnExactIsMinimalDepUptoSaid : Prop := fnExactIsMinimalDepUptoRow.holds Try.pinned (OpenSpec.upto fnExactIsMinimalDepSpec)

/-- 'laws.FnExactSatisfiesAll', WHERE WHAT IT READS IS OF BULK AT MOST 1048576: true; the input reads as it did. -/
def fnExactSatisfiesAllUptoRow : OpenClaim := { program := "ytjgfndbgenhjbaa", sum := "1bb6e8e2d017e1de6139ad79239bd7e4b1c7d3383bd6c923b39aca7499004901", func := "loop.example/g01988/laws.FnExactSatisfiesAll", spec := "fnExactSatisfiesAll", apart := false, narrowed := true }
def FnExactSatisfiesAllUptoSaid : Prop := fnExactSatisfiesAllUptoRow.holds Try.pinned (OpenSpec.upto fnExactSatisfiesAllSpec)

/-- 'laws.FnExactRowsToRemove', WHERE WHAT IT READS IS OF BULK AT MOST 1048576: true; the input reads as it did. -/
def fnExactRowsToRemoveUptoRow : OpenClaim := { program := "ytjgfndbgenhjbaa", sum := "1bb6e8e2d017e1de6139ad79239bd7e4b1c7d3383bd6c923b39aca7499004901", func := "loop.example/g01988/laws.FnExactRowsToRemove", spec := "fnExactRowsToRemove", unfollowed := true, recurses := true, apart := false, narrowed := true }
def FnExactRowsToRemoveUptoSaid : Prop := fnExactRowsToRemoveUptoRow.holds Try.pinned (OpenSpec.upto fnExactRowsToRemoveSpec)

/-- 'laws.FnExactArmstrongTable', WHERE WHAT IT READS IS OF BULK AT MOST 1048576: true; the input reads as it did. -/
def fnExactArmstrongTableUptoRow : OpenClaim := { program := "ytjgfndbgenhjbaa", sum := "1bb6e8e2d017e1de6139ad79239bd7e4b1c7d3383bd6c923b39aca7499004901", func := "loop.example/g01988/laws.FnExactArmstrongTable", spec := "fnExactArmstrongTable", apart := false, narrowed := true }
def FnExactArmstrongTableUptoSaid : Prop := fnExactArmstrongTableUptoRow.holds Try.pinned (OpenSpec.upto fnExactArmstrongTableSpec)

/-- 'laws.FnExactEqualSearches', WHERE WHAT IT READS IS OF BULK AT MOST 1048576: true; the input reads as it did. -/
def fnExactEqualSearchesUptoRow : OpenClaim := { program := "ytjgfndbgenhjbaa", sum := "1bb6e8e2d017e1de6139ad79239bd7e4b1c7d3383bd6c923b39aca7499004901", func := "loop.example/g01988/laws.FnExactEqualSearches", spec := "fnExactEqualSearches", unfollowed := true, recurses := true, apart := false, narrowed := true }
def FnExactEqualSearchesUptoSaid : Prop := fnExactEqualSearchesUptoRow.holds Try.pinned (OpenSpec.upto fnExactEqualSearchesSpec)

/-- 'laws.FnExactKeysOf', WHERE WHAT IT READS IS OF BULK AT MOST 1048576: true; the input reads as it did. -/
def fnExactKeysOfUptoRow : OpenClaim := { program := "ytjgfndbgenhjbaa", sum := "1bb6e8e2d017e1de6139ad79239bd7e4b1c7d3383bd6c923b39aca7499004901", func := "loop.example/g01988/laws.FnExactKeysOf", spec := "fnExactKeysOf", recurses := true, apart := false, narrowed := true }
def FnExactKeysOfUptoSaid : Prop := fnExactKeysOfUptoRow.holds Try.pinned (OpenSpec.upto fnExactKeysOfSpec)

/-- 'laws.FnExactPrimeColumns', WHERE WHAT IT READS IS OF BULK AT MOST 1048576: true; the input reads as it did. -/
def fnExactPrimeColumnsUptoRow : OpenClaim := { program := "ytjgfndbgenhjbaa", sum := "1bb6e8e2d017e1de6139ad79239bd7e4b1c7d3383bd6c923b39aca7499004901", func := "loop.example/g01988/laws.FnExactPrimeColumns", spec := "fnExactPrimeColumns", recurses := true, apart := false, narrowed := true }
def FnExactPrimeColumnsUptoSaid : Prop := fnExactPrimeColumnsUptoRow.holds Try.pinned (OpenSpec.upto fnExactPrimeColumnsSpec)

/-- 'laws.FnExactTransversals', WHERE WHAT IT READS IS OF BULK AT MOST 1048576: true; the input reads as it did. -/
def fnExactTransversalsUptoRow : OpenClaim := { program := "ytjgfndbgenhjbaa", sum := "1bb6e8e2d017e1de6139ad79239bd7e4b1c7d3383bd6c923b39aca7499004901", func := "loop.example/g01988/laws.FnExactTransversals", spec := "fnExactTransversals", recurses := true, apart := false, narrowed := true }
def FnExactTransversalsUptoSaid : Prop := fnExactTransversalsUptoRow.holds Try.pinned (OpenSpec.upto fnExactTransversalsSpec)

/-- 'laws.FnExactGrowTransversals', WHERE WHAT IT READS IS OF BULK AT MOST 1048576: true; the input reads as it did. -/
def fnExactGrowTransversalsUptoRow : OpenClaim := { program := "ytjgfndbgenhjbaa", sum := "1bb6e8e2d017e1de6139ad79239bd7e4b1c7d3383bd6c923b39aca7499004901", func := "loop.example/g01988/laws.FnExactGrowTransversals", spec := "fnExactGrowTransversals", recurses := true, apart := false, narrowed := true }
def FnExactGrowTransversalsUptoSaid : Prop := fnExactGrowTransversalsUptoRow.holds Try.pinned (OpenSpec.upto fnExactGrowTransversalsSpec)

/-- 'laws.FnExactNewSearch', WHERE WHAT IT READS IS OF BULK AT MOST 1048576: true; the input reads as it did. -/
def fnExactNewSearchUptoRow : OpenClaim := { program := "ytjgfndbgenhjbaa", sum := "1bb6e8e2d017e1de6139ad79239bd7e4b1c7d3383bd6c923b39aca7499004901", func := "loop.example/g01988/laws.FnExactNewSearch", spec := "fnExactNewSearch", apart := false, narrowed := true }
def FnExactNewSearchUptoSaid : Prop := fnExactNewSearchUptoRow.holds Try.pinned (OpenSpec.upto fnExactNewSearchSpec)

end Rows
end Go.Proofs.Ytjgfndbgenhjbaa
