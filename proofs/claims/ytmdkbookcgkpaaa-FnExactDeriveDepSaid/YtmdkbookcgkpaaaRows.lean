/-
  No cell of these rows narrows 'for every input' (looked for: loops, veiled, ifaces, maps, wideKeys, modest, calm, conditions, laid).
  DERIVED. THE GIVEN ROWS OF THIS SEAT. 12 by the template 'for every input the law returns true; each argument reads behind the call as it read before'; 0 by the template 'total and deterministic' (their statements: YtmdkbookcgkpaaaTotals.lean).
  GIVEN WITH THE SEED: the statements are not yours to turn. If you find one false, say at which input.
  Laid BY PROGRAM, IN A SANDBOX (cutbox-rows.mjs): the forced cells as the released guide's own fill.sh prints them over the translation f6fd004c4210b27a… (all of the seat's roots in one cut). By AI agents, Wed Nov 11 2026. No macro, syntax, notation, axiom, sorry.
-/
import Derived.Test.YtmdkbookcgkpaaaChecked
import GoSem.Claim
import GoSem.ClaimJoined
import GoSem.ClaimMapViews
import Derived.JoinedTies
import Derived.KernelRfl
namespace Go.Proofs.Ytmdkbookcgkpaaa
/- THE CELL 'sum', in the pinned program and in every row, IS THE sha256 OF THE DUMP (.gsa) THAT YtmdkbookcgkpaaaProg.lean LOADS. Nothing in Lean hashes anything: it is a label: what it is worth is what the hold of that sum in a sandbox is worth. -/
noncomputable def Try.pinned : Pinned := { name := "ytmdkbookcgkpaaa", sum := "f6fd004c4210b27a00862a23101a68062be0870e8e4267aaaf8cee6258bec0d5", checked := Try.checked }
namespace Rows
def none {H : Type} : Left H := { results := [], args := [] }

/-- 'laws.FnExactHitsAll': WHATEVER THE INPUT: true; the input reads as it did. -/
def fnExactHitsAllSpec : ChangeSpec := { name := "fnExactHitsAll", fn := fun _ => fun
  | [d1, d2] => { results := [.lit (.bool true)], args := [d1, d2] }
  | _ => none }
def fnExactHitsAllRow : OpenClaim := { program := "ytmdkbookcgkpaaa", sum := "f6fd004c4210b27a00862a23101a68062be0870e8e4267aaaf8cee6258bec0d5", func := "loop.example/g01988/laws.FnExactHitsAll", spec := "fnExactHitsAll", apart := false }
def FnExactHitsAllSaid : Prop := fnExactHitsAllRow.holds Try.pinned (OpenSpec.ofChange fnExactHitsAllSpec)

/-- ITS FALSE NEIGHBOUR: 'it returns false'. Refute it at one input. -/
def fnExactHitsAllWrong : ChangeSpec := { name := "fnExactHitsAll", fn := fun _ => fun
  | [d1, d2] => { results := [.lit (.bool false)], args := [d1, d2] }
  | _ => none }
def FnExactHitsAllWrongFalsely : Prop := fnExactHitsAllRow.holds Try.pinned (OpenSpec.ofChange fnExactHitsAllWrong)

/-- 'laws.FnExactAreDeps': WHATEVER THE INPUT: true; the input reads as it did. -/
def fnExactAreDepsSpec : ChangeSpec := { name := "fnExactAreDeps", fn := fun _ => fun
  | [d1, d2] => { results := [.lit (.bool true)], args := [d1, d2] }
  | _ => none }
def fnExactAreDepsRow : OpenClaim := { program := "ytmdkbookcgkpaaa", sum := "f6fd004c4210b27a00862a23101a68062be0870e8e4267aaaf8cee6258bec0d5", func := "loop.example/g01988/laws.FnExactAreDeps", spec := "fnExactAreDeps", apart := false }
def FnExactAreDepsSaid : Prop := fnExactAreDepsRow.holds Try.pinned (OpenSpec.ofChange fnExactAreDepsSpec)

/-- ITS FALSE NEIGHBOUR: 'it returns false'. Refute it at one input. -/
def fnExactAreDepsWrong : ChangeSpec := { name := "fnExactAreDeps", fn := fun _ => fun
  | [d1, d2] => { results := [.lit (.bool false)], args := [d1, d2] }
  | _ => none }
def FnExactAreDepsWrongFalsely : Prop := fnExactAreDepsRow.holds Try.pinned (OpenSpec.ofChange fnExactAreDepsWrong)

/-- 'laws.FnExactImpliesDep': WHATEVER THE INPUT: true; the input reads as it did. -/
def fnExactImpliesDepSpec : ChangeSpec := { name := "fnExactImpliesDep", fn := fun _ => fun
  | [d1, d2, d3] => { results := [.lit (.bool true)], args := [d1, d2, d3] }
  | _ => none }
def fnExactImpliesDepRow : OpenClaim := { program := "ytmdkbookcgkpaaa", sum := "f6fd004c4210b27a00862a23101a68062be0870e8e4267aaaf8cee6258bec0d5", func := "loop.example/g01988/laws.FnExactImpliesDep", spec := "fnExactImpliesDep", apart := false }
def FnExactImpliesDepSaid : Prop := fnExactImpliesDepRow.holds Try.pinned (OpenSpec.ofChange fnExactImpliesDepSpec)

/-- ITS FALSE NEIGHBOUR: 'it returns false'. Refute it at one input. -/
def fnExactImpliesDepWrong : ChangeSpec := { name := "fnExactImpliesDep", fn := fun _ => fun
  | [d1, d2, d3] => { results := [.lit (.bool false)], args := [d1, d2, d3] }
  | _ => none }
def FnExactImpliesDepWrongFalsely : Prop := fnExactImpliesDepRow.holds Try.pinned (OpenSpec.ofChange fnExactImpliesDepWrong)

/-- 'laws.FnExactClosureOf': WHATEVER THE INPUT: true; the input reads as it did. -/
def fnExactClosureOfSpec : ChangeSpec := { name := "fnExactClosureOf", fn := fun _ => fun
  | [d1, d2, d3] => { results := [.lit (.bool true)], args := [d1, d2, d3] }
  | _ => none }
def fnExactClosureOfRow : OpenClaim := { program := "ytmdkbookcgkpaaa", sum := "f6fd004c4210b27a00862a23101a68062be0870e8e4267aaaf8cee6258bec0d5", func := "loop.example/g01988/laws.FnExactClosureOf", spec := "fnExactClosureOf", apart := false }
def FnExactClosureOfSaid : Prop := fnExactClosureOfRow.holds Try.pinned (OpenSpec.ofChange fnExactClosureOfSpec)

/-- ITS FALSE NEIGHBOUR: 'it returns false'. Refute it at one input. -/
def fnExactClosureOfWrong : ChangeSpec := { name := "fnExactClosureOf", fn := fun _ => fun
  | [d1, d2, d3] => { results := [.lit (.bool false)], args := [d1, d2, d3] }
  | _ => none }
def FnExactClosureOfWrongFalsely : Prop := fnExactClosureOfRow.holds Try.pinned (OpenSpec.ofChange fnExactClosureOfWrong)

/-- 'laws.FnExactReduceLeft': WHATEVER THE INPUT: true; the input reads as it did. -/
def fnExactReduceLeftSpec : ChangeSpec := { name := "fnExactReduceLeft", fn := fun _ => fun
  | [d1, d2, d3] => { results := [.lit (.bool true)], args := [d1, d2, d3] }
  | _ => none }
def fnExactReduceLeftRow : OpenClaim := { program := "ytmdkbookcgkpaaa", sum := "f6fd004c4210b27a00862a23101a68062be0870e8e4267aaaf8cee6258bec0d5", func := "loop.example/g01988/laws.FnExactReduceLeft", spec := "fnExactReduceLeft", apart := false }
def FnExactReduceLeftSaid : Prop := fnExactReduceLeftRow.holds Try.pinned (OpenSpec.ofChange fnExactReduceLeftSpec)

/-- ITS FALSE NEIGHBOUR: 'it returns false'. Refute it at one input. -/
def fnExactReduceLeftWrong : ChangeSpec := { name := "fnExactReduceLeft", fn := fun _ => fun
  | [d1, d2, d3] => { results := [.lit (.bool false)], args := [d1, d2, d3] }
  | _ => none }
def FnExactReduceLeftWrongFalsely : Prop := fnExactReduceLeftRow.holds Try.pinned (OpenSpec.ofChange fnExactReduceLeftWrong)

/-- 'laws.FnExactSameMeaning': WHATEVER THE INPUT: true; the input reads as it did. -/
def fnExactSameMeaningSpec : ChangeSpec := { name := "fnExactSameMeaning", fn := fun _ => fun
  | [d1, d2, d3] => { results := [.lit (.bool true)], args := [d1, d2, d3] }
  | _ => none }
def fnExactSameMeaningRow : OpenClaim := { program := "ytmdkbookcgkpaaa", sum := "f6fd004c4210b27a00862a23101a68062be0870e8e4267aaaf8cee6258bec0d5", func := "loop.example/g01988/laws.FnExactSameMeaning", spec := "fnExactSameMeaning", apart := false }
def FnExactSameMeaningSaid : Prop := fnExactSameMeaningRow.holds Try.pinned (OpenSpec.ofChange fnExactSameMeaningSpec)

/-- ITS FALSE NEIGHBOUR: 'it returns false'. Refute it at one input. -/
def fnExactSameMeaningWrong : ChangeSpec := { name := "fnExactSameMeaning", fn := fun _ => fun
  | [d1, d2, d3] => { results := [.lit (.bool false)], args := [d1, d2, d3] }
  | _ => none }
def FnExactSameMeaningWrongFalsely : Prop := fnExactSameMeaningRow.holds Try.pinned (OpenSpec.ofChange fnExactSameMeaningWrong)

/-- 'laws.FnExactCheckDerivation': WHATEVER THE INPUT: true; the input reads as it did. -/
def fnExactCheckDerivationSpec : ChangeSpec := { name := "fnExactCheckDerivation", fn := fun _ => fun
  | [d1, d2, d3, d4] => { results := [.lit (.bool true)], args := [d1, d2, d3, d4] }
  | _ => none }
def fnExactCheckDerivationRow : OpenClaim := { program := "ytmdkbookcgkpaaa", sum := "f6fd004c4210b27a00862a23101a68062be0870e8e4267aaaf8cee6258bec0d5", func := "loop.example/g01988/laws.FnExactCheckDerivation", spec := "fnExactCheckDerivation", apart := false }
def FnExactCheckDerivationSaid : Prop := fnExactCheckDerivationRow.holds Try.pinned (OpenSpec.ofChange fnExactCheckDerivationSpec)

/-- ITS FALSE NEIGHBOUR: 'it returns false'. Refute it at one input. -/
def fnExactCheckDerivationWrong : ChangeSpec := { name := "fnExactCheckDerivation", fn := fun _ => fun
  | [d1, d2, d3, d4] => { results := [.lit (.bool false)], args := [d1, d2, d3, d4] }
  | _ => none }
def FnExactCheckDerivationWrongFalsely : Prop := fnExactCheckDerivationRow.holds Try.pinned (OpenSpec.ofChange fnExactCheckDerivationWrong)

/-- 'laws.FnExactClosedSets': WHATEVER THE INPUT: true; the input reads as it did. -/
def fnExactClosedSetsSpec : ChangeSpec := { name := "fnExactClosedSets", fn := fun _ => fun
  | [d1, d2] => { results := [.lit (.bool true)], args := [d1, d2] }
  | _ => none }
def fnExactClosedSetsRow : OpenClaim := { program := "ytmdkbookcgkpaaa", sum := "f6fd004c4210b27a00862a23101a68062be0870e8e4267aaaf8cee6258bec0d5", func := "loop.example/g01988/laws.FnExactClosedSets", spec := "fnExactClosedSets", apart := false }
def FnExactClosedSetsSaid : Prop := fnExactClosedSetsRow.holds Try.pinned (OpenSpec.ofChange fnExactClosedSetsSpec)

/-- ITS FALSE NEIGHBOUR: 'it returns false'. Refute it at one input. -/
def fnExactClosedSetsWrong : ChangeSpec := { name := "fnExactClosedSets", fn := fun _ => fun
  | [d1, d2] => { results := [.lit (.bool false)], args := [d1, d2] }
  | _ => none }
def FnExactClosedSetsWrongFalsely : Prop := fnExactClosedSetsRow.holds Try.pinned (OpenSpec.ofChange fnExactClosedSetsWrong)

/-- 'laws.FnExactIsCover': WHATEVER THE INPUT: true; the input reads as it did. -/
def fnExactIsCoverSpec : ChangeSpec := { name := "fnExactIsCover", fn := fun _ => fun
  | [d1, d2] => { results := [.lit (.bool true)], args := [d1, d2] }
  | _ => none }
def fnExactIsCoverRow : OpenClaim := { program := "ytmdkbookcgkpaaa", sum := "f6fd004c4210b27a00862a23101a68062be0870e8e4267aaaf8cee6258bec0d5", func := "loop.example/g01988/laws.FnExactIsCover", spec := "fnExactIsCover", apart := false }
def FnExactIsCoverSaid : Prop := fnExactIsCoverRow.holds Try.pinned (OpenSpec.ofChange fnExactIsCoverSpec)

/-- ITS FALSE NEIGHBOUR: 'it returns false'. Refute it at one input. -/
def fnExactIsCoverWrong : ChangeSpec := { name := "fnExactIsCover", fn := fun _ => fun
  | [d1, d2] => { results := [.lit (.bool false)], args := [d1, d2] }
  | _ => none }
def FnExactIsCoverWrongFalsely : Prop := fnExactIsCoverRow.holds Try.pinned (OpenSpec.ofChange fnExactIsCoverWrong)

/-- 'laws.FnExactDeriveDep': WHATEVER THE INPUT: true; the input reads as it did. -/
def fnExactDeriveDepSpec : ChangeSpec := { name := "fnExactDeriveDep", fn := fun _ => fun
  | [d1, d2, d3] => { results := [.lit (.bool true)], args := [d1, d2, d3] }
  | _ => none }
def fnExactDeriveDepRow : OpenClaim := { program := "ytmdkbookcgkpaaa", sum := "f6fd004c4210b27a00862a23101a68062be0870e8e4267aaaf8cee6258bec0d5", func := "loop.example/g01988/laws.FnExactDeriveDep", spec := "fnExactDeriveDep", apart := false }
def FnExactDeriveDepSaid : Prop := fnExactDeriveDepRow.holds Try.pinned (OpenSpec.ofChange fnExactDeriveDepSpec)

/-- ITS FALSE NEIGHBOUR: 'it returns false'. Refute it at one input. -/
def fnExactDeriveDepWrong : ChangeSpec := { name := "fnExactDeriveDep", fn := fun _ => fun
  | [d1, d2, d3] => { results := [.lit (.bool false)], args := [d1, d2, d3] }
  | _ => none }
def FnExactDeriveDepWrongFalsely : Prop := fnExactDeriveDepRow.holds Try.pinned (OpenSpec.ofChange fnExactDeriveDepWrong)

/-- 'laws.FnExactCounterTable': WHATEVER THE INPUT: true; the input reads as it did. -/
def fnExactCounterTableSpec : ChangeSpec := { name := "fnExactCounterTable", fn := fun _ => fun
  | [d1, d2, d3] => { results := [.lit (.bool true)], args := [d1, d2, d3] }
  | _ => none }
def fnExactCounterTableRow : OpenClaim := { program := "ytmdkbookcgkpaaa", sum := "f6fd004c4210b27a00862a23101a68062be0870e8e4267aaaf8cee6258bec0d5", func := "loop.example/g01988/laws.FnExactCounterTable", spec := "fnExactCounterTable", apart := false }
def FnExactCounterTableSaid : Prop := fnExactCounterTableRow.holds Try.pinned (OpenSpec.ofChange fnExactCounterTableSpec)

/-- ITS FALSE NEIGHBOUR: 'it returns false'. Refute it at one input. -/
def fnExactCounterTableWrong : ChangeSpec := { name := "fnExactCounterTable", fn := fun _ => fun
  | [d1, d2, d3] => { results := [.lit (.bool false)], args := [d1, d2, d3] }
  | _ => none }
def FnExactCounterTableWrongFalsely : Prop := fnExactCounterTableRow.holds Try.pinned (OpenSpec.ofChange fnExactCounterTableWrong)

/-- 'laws.FnExactCoverOf': WHATEVER THE INPUT: true; the input reads as it did. -/
def fnExactCoverOfSpec : ChangeSpec := { name := "fnExactCoverOf", fn := fun _ => fun
  | [d1, d2] => { results := [.lit (.bool true)], args := [d1, d2] }
  | _ => none }
def fnExactCoverOfRow : OpenClaim := { program := "ytmdkbookcgkpaaa", sum := "f6fd004c4210b27a00862a23101a68062be0870e8e4267aaaf8cee6258bec0d5", func := "loop.example/g01988/laws.FnExactCoverOf", spec := "fnExactCoverOf", apart := false }
def FnExactCoverOfSaid : Prop := fnExactCoverOfRow.holds Try.pinned (OpenSpec.ofChange fnExactCoverOfSpec)

/-- ITS FALSE NEIGHBOUR: 'it returns false'. Refute it at one input. -/
def fnExactCoverOfWrong : ChangeSpec := { name := "fnExactCoverOf", fn := fun _ => fun
  | [d1, d2] => { results := [.lit (.bool false)], args := [d1, d2] }
  | _ => none }
def FnExactCoverOfWrongFalsely : Prop := fnExactCoverOfRow.holds Try.pinned (OpenSpec.ofChange fnExactCoverOfWrong)

/- THE SECOND FORM. 'bulk': how many values and letters a reading holds, each counted each time it is reached (what is shared counts as often as it is met; a slice's spare places count too). A statement '..UptoSaid' is the law's where the arguments, and the package variables that the reading takes, are together of bulk at most 1048576: NARROWER than '..Said'. Prove '..Said' where nothing that the law and all that it calls make is longer than what came in: it says more and counts as full. Else prove '..UptoSaid'. A law counts once. -/
mutual
def uptoBulk {H : Type} : DataW H → Nat
  | .lit (.string bytes) => bytes.length + 1
  | .lit _ => 1
  | .nil => 1
  | .ptr d => uptoBulk d + 1
  | .slice elems spare => uptoBulkAll elems + uptoBulkAll spare + 1
  | .agg parts => uptoBulkAll parts + 1
  | .iface _ d => uptoBulk d + 1
  | .map entries => uptoBulkEntries entries + 1
  | .held _ => 1
def uptoBulkAll {H : Type} : List (DataW H) → Nat
  | [] => 0
  | d :: r => uptoBulk d + uptoBulkAll r
def uptoBulkEntries {H : Type} : List (Lit × DataW H) → Nat
  | [] => 0
  | x :: r => uptoBulkEntry x + uptoBulkEntries r
def uptoBulkEntry {H : Type} : Lit × DataW H → Nat
  | (.string bytes, d) => bytes.length + uptoBulk d + 1
  | (_, d) => uptoBulk d + 1
 end
def uptoSmall : (H : Type) → List (DataW H) → Bool := fun _ ds => decide (uptoBulkAll ds ≤ 1048576)
def OpenSpec.upto (s : _root_.Go.ChangeSpec) : _root_.Go.OpenSpec := { _root_.Go.OpenSpec.ofChange s with cond := some uptoSmall }

/-- 'laws.FnExactHitsAll', WHERE WHAT IT READS IS OF BULK AT MOST 1048576: true; the input reads as it did. -/
def fnExactHitsAllUptoRow : OpenClaim := { program := "ytmdkbookcgkpaaa", sum := "f6fd004c4210b27a00862a23101a68062be0870e8e4267aaaf8cee6258bec0d5", func := "loop.example/g01988/laws.FnExactHitsAll", spec := "fnExactHitsAll", apart := false, narrowed := true }
def FnExactHitsAllUptoSaid : Prop := fnExactHitsAllUptoRow.holds Try.pinned (OpenSpec.upto fnExactHitsAllSpec)

/-- 'laws.FnExactAreDeps', WHERE WHAT IT READS IS OF BULK AT MOST 1048576: true; the input reads as it did. -/
def fnExactAreDepsUptoRow : OpenClaim := { program := "ytmdkbookcgkpaaa", sum := "f6fd004c4210b27a00862a23101a68062be0870e8e4267aaaf8cee6258bec0d5", func := "loop.example/g01988/laws.FnExactAreDeps", spec := "fnExactAreDeps", apart := false, narrowed := true }
def FnExactAreDepsUptoSaid : Prop := fnExactAreDepsUptoRow.holds Try.pinned (OpenSpec.upto fnExactAreDepsSpec)

/-- 'laws.FnExactImpliesDep', WHERE WHAT IT READS IS OF BULK AT MOST 1048576: true; the input reads as it did. -/
def fnExactImpliesDepUptoRow : OpenClaim := { program := "ytmdkbookcgkpaaa", sum := "f6fd004c4210b27a00862a23101a68062be0870e8e4267aaaf8cee6258bec0d5", func := "loop.example/g01988/laws.FnExactImpliesDep", spec := "fnExactImpliesDep", apart := false, narrowed := true }
def FnExactImpliesDepUptoSaid : Prop := fnExactImpliesDepUptoRow.holds Try.pinned (OpenSpec.upto fnExactImpliesDepSpec)

/-- 'laws.FnExactClosureOf', WHERE WHAT IT READS IS OF BULK AT MOST 1048576: true; the input reads as it did. -/
def fnExactClosureOfUptoRow : OpenClaim := { program := "ytmdkbookcgkpaaa", sum := "f6fd004c4210b27a00862a23101a68062be0870e8e4267aaaf8cee6258bec0d5", func := "loop.example/g01988/laws.FnExactClosureOf", spec := "fnExactClosureOf", apart := false, narrowed := true }
def FnExactClosureOfUptoSaid : Prop := fnExactClosureOfUptoRow.holds Try.pinned (OpenSpec.upto fnExactClosureOfSpec)

/-- 'laws.FnExactReduceLeft', WHERE WHAT IT READS IS OF BULK AT MOST 1048576: true; the input reads as it did. -/
def fnExactReduceLeftUptoRow : OpenClaim := { program := "ytmdkbookcgkpaaa", sum := "f6fd004c4210b27a00862a23101a68062be0870e8e4267aaaf8cee6258bec0d5", func := "loop.example/g01988/laws.FnExactReduceLeft", spec := "fnExactReduceLeft", apart := false, narrowed := true }
def FnExactReduceLeftUptoSaid : Prop := fnExactReduceLeftUptoRow.holds Try.pinned (OpenSpec.upto fnExactReduceLeftSpec)

/-- 'laws.FnExactSameMeaning', WHERE WHAT IT READS IS OF BULK AT MOST 1048576: true; the input reads as it did. -/
def fnExactSameMeaningUptoRow : OpenClaim := { program := "ytmdkbookcgkpaaa", sum := "f6fd004c4210b27a00862a23101a68062be0870e8e4267aaaf8cee6258bec0d5", func := "loop.example/g01988/laws.FnExactSameMeaning", spec := "fnExactSameMeaning", apart := false, narrowed := true }
def FnExactSameMeaningUptoSaid : Prop := fnExactSameMeaningUptoRow.holds Try.pinned (OpenSpec.upto fnExactSameMeaningSpec)

/-- 'laws.FnExactCheckDerivation', WHERE WHAT IT READS IS OF BULK AT MOST 1048576: true; the input reads as it did. -/
def fnExactCheckDerivationUptoRow : OpenClaim := { program := "ytmdkbookcgkpaaa", sum := "f6fd004c4210b27a00862a23101a68062be0870e8e4267aaaf8cee6258bec0d5", func := "loop.example/g01988/laws.FnExactCheckDerivation", spec := "fnExactCheckDerivation", apart := false, narrowed := true }
def FnExactCheckDerivationUptoSaid : Prop := fnExactCheckDerivationUptoRow.holds Try.pinned (OpenSpec.upto fnExactCheckDerivationSpec)

/-- 'laws.FnExactClosedSets', WHERE WHAT IT READS IS OF BULK AT MOST 1048576: true; the input reads as it did. -/
def fnExactClosedSetsUptoRow : OpenClaim := { program := "ytmdkbookcgkpaaa", sum := "f6fd004c4210b27a00862a23101a68062be0870e8e4267aaaf8cee6258bec0d5", func := "loop.example/g01988/laws.FnExactClosedSets", spec := "fnExactClosedSets", apart := false, narrowed := true }
def FnExactClosedSetsUptoSaid : Prop := fnExactClosedSetsUptoRow.holds Try.pinned (OpenSpec.upto fnExactClosedSetsSpec)

/-- 'laws.FnExactIsCover', WHERE WHAT IT READS IS OF BULK AT MOST 1048576: true; the input reads as it did. -/
def fnExactIsCoverUptoRow : OpenClaim := { program := "ytmdkbookcgkpaaa", sum := "f6fd004c4210b27a00862a23101a68062be0870e8e4267aaaf8cee6258bec0d5", func := "loop.example/g01988/laws.FnExactIsCover", spec := "fnExactIsCover", apart := false, narrowed := true }
def FnExactIsCoverUptoSaid : Prop := fnExactIsCoverUptoRow.holds Try.pinned (OpenSpec.upto fnExactIsCoverSpec)

/-- 'laws.FnExactDeriveDep', WHERE WHAT IT READS IS OF BULK AT MOST 1048576: true; the input reads as it did. -/
def fnExactDeriveDepUptoRow : OpenClaim := { program := "ytmdkbookcgkpaaa", sum := "f6fd004c4210b27a00862a23101a68062be0870e8e4267aaaf8cee6258bec0d5", func := "loop.example/g01988/laws.FnExactDeriveDep", spec := "fnExactDeriveDep", apart := false, narrowed := true }
def FnExactDeriveDepUptoSaid : Prop := fnExactDeriveDepUptoRow.holds Try.pinned (OpenSpec.upto fnExactDeriveDepSpec)

/-- 'laws.FnExactCounterTable', WHERE WHAT IT READS IS OF BULK AT MOST 1048576: true; the input reads as it did. -/
def fnExactCounterTableUptoRow : OpenClaim := { program := "ytmdkbookcgkpaaa", sum := "f6fd004c4210b27a00862a23101a68062be0870e8e4267aaaf8cee6258bec0d5", func := "loop.example/g01988/laws.FnExactCounterTable", spec := "fnExactCounterTable", apart := false, narrowed := true }
def FnExactCounterTableUptoSaid : Prop := fnExactCounterTableUptoRow.holds Try.pinned (OpenSpec.upto fnExactCounterTableSpec)

/-- 'laws.FnExactCoverOf', WHERE WHAT IT READS IS OF BULK AT MOST 1048576: true; the input reads as it did. -/
def fnExactCoverOfUptoRow : OpenClaim := { program := "ytmdkbookcgkpaaa", sum := "f6fd004c4210b27a00862a23101a68062be0870e8e4267aaaf8cee6258bec0d5", func := "loop.example/g01988/laws.FnExactCoverOf", spec := "fnExactCoverOf", apart := false, narrowed := true }
def FnExactCoverOfUptoSaid : Prop := fnExactCoverOfUptoRow.holds Try.pinned (OpenSpec.upto fnExactCoverOfSpec)

end Rows
end Go.Proofs.Ytmdkbookcgkpaaa
