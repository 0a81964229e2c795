/-
  No cell of these rows narrows 'for every input' (looked for: loops, veiled, ifaces, maps, wideKeys, modest, calm, conditions, laid).
  DERIVED. THE GIVEN ROWS OF THIS SEAT. 8 by the template 'for every input the law returns true; each argument reads behind the call as it read before'; 0 by the template 'total and deterministic' (their statements: YtaomdnibnnobiaaTotals.lean).
  GIVEN WITH THE SEED: the statements are not yours to turn. If you find one false, say at which input.
  Laid BY PROGRAM, IN A SANDBOX (cutbox-rows.mjs): the forced cells as the released guide's own fill.sh prints them over the translation ce5dacec09623e13… (all of the seat's roots in one cut). By AI agents, Wed Nov 11 2026. No macro, syntax, notation, axiom, sorry.
-/
import Derived.Test.YtaomdnibnnobiaaChecked
import GoSem.Claim
import GoSem.ClaimJoined
import GoSem.ClaimMapViews
import Derived.JoinedTies
import Derived.KernelRfl
namespace Go.Proofs.Ytaomdnibnnobiaa
/- THE CELL 'sum', in the pinned program and in every row, IS THE sha256 OF THE DUMP (.gsa) THAT YtaomdnibnnobiaaProg.lean LOADS. Nothing in Lean hashes anything: it is a label: what it is worth is what the hold of that sum in a sandbox is worth. -/
noncomputable def Try.pinned : Pinned := { name := "ytaomdnibnnobiaa", sum := "ce5dacec09623e133c02538fe4d267394f7e68751da81cdfa6bd0641855b728c", checked := Try.checked }
namespace Rows
def none {H : Type} : Left H := { results := [], args := [] }

/-- 'laws.FnExactDepsOfAgreeSets': WHATEVER THE INPUT: true; the input reads as it did. -/
def fnExactDepsOfAgreeSetsSpec : ChangeSpec := { name := "fnExactDepsOfAgreeSets", fn := fun _ => fun
  | [d1, d2] => { results := [.lit (.bool true)], args := [d1, d2] }
  | _ => none }
def fnExactDepsOfAgreeSetsRow : OpenClaim := { program := "ytaomdnibnnobiaa", sum := "ce5dacec09623e133c02538fe4d267394f7e68751da81cdfa6bd0641855b728c", func := "loop.example/g01988/laws.FnExactDepsOfAgreeSets", spec := "fnExactDepsOfAgreeSets", unfollowed := true, recurses := true, apart := false }
def FnExactDepsOfAgreeSetsSaid : Prop := fnExactDepsOfAgreeSetsRow.holds Try.pinned (OpenSpec.ofChange fnExactDepsOfAgreeSetsSpec)

/-- ITS FALSE NEIGHBOUR: 'it returns false'. Refute it at one input. -/
def fnExactDepsOfAgreeSetsWrong : ChangeSpec := { name := "fnExactDepsOfAgreeSets", fn := fun _ => fun
  | [d1, d2] => { results := [.lit (.bool false)], args := [d1, d2] }
  | _ => none }
def FnExactDepsOfAgreeSetsWrongFalsely : Prop := fnExactDepsOfAgreeSetsRow.holds Try.pinned (OpenSpec.ofChange fnExactDepsOfAgreeSetsWrong)

/-- 'laws.FnExactProjectDeps': WHATEVER THE INPUT: true; the input reads as it did. -/
def fnExactProjectDepsSpec : ChangeSpec := { name := "fnExactProjectDeps", fn := fun _ => fun
  | [d1, d2, d3] => { results := [.lit (.bool true)], args := [d1, d2, d3] }
  | _ => none }
def fnExactProjectDepsRow : OpenClaim := { program := "ytaomdnibnnobiaa", sum := "ce5dacec09623e133c02538fe4d267394f7e68751da81cdfa6bd0641855b728c", func := "loop.example/g01988/laws.FnExactProjectDeps", spec := "fnExactProjectDeps", unfollowed := true, recurses := true, apart := false }
def FnExactProjectDepsSaid : Prop := fnExactProjectDepsRow.holds Try.pinned (OpenSpec.ofChange fnExactProjectDepsSpec)

/-- ITS FALSE NEIGHBOUR: 'it returns false'. Refute it at one input. -/
def fnExactProjectDepsWrong : ChangeSpec := { name := "fnExactProjectDeps", fn := fun _ => fun
  | [d1, d2, d3] => { results := [.lit (.bool false)], args := [d1, d2, d3] }
  | _ => none }
def FnExactProjectDepsWrongFalsely : Prop := fnExactProjectDepsRow.holds Try.pinned (OpenSpec.ofChange fnExactProjectDepsWrong)

/-- 'laws.FnExactKeysByTransversals': WHATEVER THE INPUT: true; the input reads as it did. -/
def fnExactKeysByTransversalsSpec : ChangeSpec := { name := "fnExactKeysByTransversals", fn := fun _ => fun
  | [d1, d2] => { results := [.lit (.bool true)], args := [d1, d2] }
  | _ => none }
def fnExactKeysByTransversalsRow : OpenClaim := { program := "ytaomdnibnnobiaa", sum := "ce5dacec09623e133c02538fe4d267394f7e68751da81cdfa6bd0641855b728c", func := "loop.example/g01988/laws.FnExactKeysByTransversals", spec := "fnExactKeysByTransversals", recurses := true, apart := false }
def FnExactKeysByTransversalsSaid : Prop := fnExactKeysByTransversalsRow.holds Try.pinned (OpenSpec.ofChange fnExactKeysByTransversalsSpec)

/-- ITS FALSE NEIGHBOUR: 'it returns false'. Refute it at one input. -/
def fnExactKeysByTransversalsWrong : ChangeSpec := { name := "fnExactKeysByTransversals", fn := fun _ => fun
  | [d1, d2] => { results := [.lit (.bool false)], args := [d1, d2] }
  | _ => none }
def FnExactKeysByTransversalsWrongFalsely : Prop := fnExactKeysByTransversalsRow.holds Try.pinned (OpenSpec.ofChange fnExactKeysByTransversalsWrong)

/-- 'laws.FnExactMinimalDeps': WHATEVER THE INPUT: true; the input reads as it did. -/
def fnExactMinimalDepsSpec : ChangeSpec := { name := "fnExactMinimalDeps", fn := fun _ => fun
  | [d1, d2] => { results := [.lit (.bool true)], args := [d1, d2] }
  | _ => none }
def fnExactMinimalDepsRow : OpenClaim := { program := "ytaomdnibnnobiaa", sum := "ce5dacec09623e133c02538fe4d267394f7e68751da81cdfa6bd0641855b728c", func := "loop.example/g01988/laws.FnExactMinimalDeps", spec := "fnExactMinimalDeps", unfollowed := true, recurses := true, apart := false }
def FnExactMinimalDepsSaid : Prop := fnExactMinimalDepsRow.holds Try.pinned (OpenSpec.ofChange fnExactMinimalDepsSpec)

/-- ITS FALSE NEIGHBOUR: 'it returns false'. Refute it at one input. -/
def fnExactMinimalDepsWrong : ChangeSpec := { name := "fnExactMinimalDeps", fn := fun _ => fun
  | [d1, d2] => { results := [.lit (.bool false)], args := [d1, d2] }
  | _ => none }
def FnExactMinimalDepsWrongFalsely : Prop := fnExactMinimalDepsRow.holds Try.pinned (OpenSpec.ofChange fnExactMinimalDepsWrong)

/-- 'laws.FnExactViolatedBorder': WHATEVER THE INPUT: true; the input reads as it did. -/
def fnExactViolatedBorderSpec : ChangeSpec := { name := "fnExactViolatedBorder", fn := fun _ => fun
  | [d1, d2, d3] => { results := [.lit (.bool true)], args := [d1, d2, d3] }
  | _ => none }
def fnExactViolatedBorderRow : OpenClaim := { program := "ytaomdnibnnobiaa", sum := "ce5dacec09623e133c02538fe4d267394f7e68751da81cdfa6bd0641855b728c", func := "loop.example/g01988/laws.FnExactViolatedBorder", spec := "fnExactViolatedBorder", unfollowed := true, recurses := true, apart := false }
def FnExactViolatedBorderSaid : Prop := fnExactViolatedBorderRow.holds Try.pinned (OpenSpec.ofChange fnExactViolatedBorderSpec)

/-- ITS FALSE NEIGHBOUR: 'it returns false'. Refute it at one input. -/
def fnExactViolatedBorderWrong : ChangeSpec := { name := "fnExactViolatedBorder", fn := fun _ => fun
  | [d1, d2, d3] => { results := [.lit (.bool false)], args := [d1, d2, d3] }
  | _ => none }
def FnExactViolatedBorderWrongFalsely : Prop := fnExactViolatedBorderRow.holds Try.pinned (OpenSpec.ofChange fnExactViolatedBorderWrong)

/-- 'laws.FnExactMinimalKeys': WHATEVER THE INPUT: true; the input reads as it did. -/
def fnExactMinimalKeysSpec : ChangeSpec := { name := "fnExactMinimalKeys", fn := fun _ => fun
  | [d1, d2] => { results := [.lit (.bool true)], args := [d1, d2] }
  | _ => none }
def fnExactMinimalKeysRow : OpenClaim := { program := "ytaomdnibnnobiaa", sum := "ce5dacec09623e133c02538fe4d267394f7e68751da81cdfa6bd0641855b728c", func := "loop.example/g01988/laws.FnExactMinimalKeys", spec := "fnExactMinimalKeys", unfollowed := true, recurses := true, apart := false }
def FnExactMinimalKeysSaid : Prop := fnExactMinimalKeysRow.holds Try.pinned (OpenSpec.ofChange fnExactMinimalKeysSpec)

/-- ITS FALSE NEIGHBOUR: 'it returns false'. Refute it at one input. -/
def fnExactMinimalKeysWrong : ChangeSpec := { name := "fnExactMinimalKeys", fn := fun _ => fun
  | [d1, d2] => { results := [.lit (.bool false)], args := [d1, d2] }
  | _ => none }
def FnExactMinimalKeysWrongFalsely : Prop := fnExactMinimalKeysRow.holds Try.pinned (OpenSpec.ofChange fnExactMinimalKeysWrong)

/-- 'laws.FnExactDepsByTransversals': WHATEVER THE INPUT: true; the input reads as it did. -/
def fnExactDepsByTransversalsSpec : ChangeSpec := { name := "fnExactDepsByTransversals", fn := fun _ => fun
  | [d1, d2] => { results := [.lit (.bool true)], args := [d1, d2] }
  | _ => none }
def fnExactDepsByTransversalsRow : OpenClaim := { program := "ytaomdnibnnobiaa", sum := "ce5dacec09623e133c02538fe4d267394f7e68751da81cdfa6bd0641855b728c", func := "loop.example/g01988/laws.FnExactDepsByTransversals", spec := "fnExactDepsByTransversals", unfollowed := true, recurses := true, apart := false }
def FnExactDepsByTransversalsSaid : Prop := fnExactDepsByTransversalsRow.holds Try.pinned (OpenSpec.ofChange fnExactDepsByTransversalsSpec)

/-- ITS FALSE NEIGHBOUR: 'it returns false'. Refute it at one input. -/
def fnExactDepsByTransversalsWrong : ChangeSpec := { name := "fnExactDepsByTransversals", fn := fun _ => fun
  | [d1, d2] => { results := [.lit (.bool false)], args := [d1, d2] }
  | _ => none }
def FnExactDepsByTransversalsWrongFalsely : Prop := fnExactDepsByTransversalsRow.holds Try.pinned (OpenSpec.ofChange fnExactDepsByTransversalsWrong)

/-- 'laws.FnExactApproximateDeps': WHATEVER THE INPUT: true; the input reads as it did. -/
def fnExactApproximateDepsSpec : ChangeSpec := { name := "fnExactApproximateDeps", fn := fun _ => fun
  | [d1, d2, d3] => { results := [.lit (.bool true)], args := [d1, d2, d3] }
  | _ => none }
def fnExactApproximateDepsRow : OpenClaim := { program := "ytaomdnibnnobiaa", sum := "ce5dacec09623e133c02538fe4d267394f7e68751da81cdfa6bd0641855b728c", func := "loop.example/g01988/laws.FnExactApproximateDeps", spec := "fnExactApproximateDeps", unfollowed := true, recurses := true, apart := false }
def FnExactApproximateDepsSaid : Prop := fnExactApproximateDepsRow.holds Try.pinned (OpenSpec.ofChange fnExactApproximateDepsSpec)

/-- ITS FALSE NEIGHBOUR: 'it returns false'. Refute it at one input. -/
def fnExactApproximateDepsWrong : ChangeSpec := { name := "fnExactApproximateDeps", fn := fun _ => fun
  | [d1, d2, d3] => { results := [.lit (.bool false)], args := [d1, d2, d3] }
  | _ => none }
def FnExactApproximateDepsWrongFalsely : Prop := fnExactApproximateDepsRow.holds Try.pinned (OpenSpec.ofChange fnExactApproximateDepsWrong)

/- THE SECOND FORM. 'bulk': how many values and letters a reading holds, each counted each time it is reached (what is shared counts as often as it is met; a slice's spare places count too). A statement '..UptoSaid' is the law's where the arguments, and the package variables that the reading takes, are together of bulk at most 1048576: NARROWER than '..Said'. Prove '..Said' where nothing that the law and all that it calls make is longer than what came in: it says more and counts as full. Else prove '..UptoSaid'. A law counts once. -/
mutual
def uptoBulk {H : Type} : DataW H → Nat
  | .lit (.string bytes) => bytes.length + 1
  | .lit _ => 1
  | .nil => 1
  | .ptr d => uptoBulk d + 1
  | .slice elems spare => uptoBulkAll elems + uptoBulkAll spare + 1
  | .agg parts => uptoBulkAll parts + 1
  | .iface _ d => uptoBulk d + 1
  | .map entries => uptoBulkEntries entries + 1
  | .held _ => 1
def uptoBulkAll {H : Type} : List (DataW H) → Nat
  | [] => 0
  | d :: r => uptoBulk d + uptoBulkAll r
def uptoBulkEntries {H : Type} : List (Lit × DataW H) → Nat
  | [] => 0
  | x :: r => uptoBulkEntry x + uptoBulkEntries r
def uptoBulkEntry {H : Type} : Lit × DataW H → Nat
  | (.string bytes, d) => bytes.length + uptoBulk d + 1
  | (_, d) => uptoBulk d + 1
 end
def uptoSmall : (H : Type) → List (DataW H) → Bool := fun _ ds => decide (uptoBulkAll ds ≤ 1048576)
def OpenSpec.upto (s : _root_.Go.ChangeSpec) : _root_.Go.OpenSpec := { _root_.Go.OpenSpec.ofChange s with cond := some uptoSmall }

/-- 'laws.FnExactDepsOfAgreeSets', WHERE WHAT IT READS IS OF BULK AT MOST 1048576: true; the input reads as it did. -/
def fnExactDepsOfAgreeSetsUptoRow : OpenClaim := { program := "ytaomdnibnnobiaa", sum := "ce5dacec09623e133c02538fe4d267394f7e68751da81cdfa6bd0641855b728c", func := "loop.example/g01988/laws.FnExactDepsOfAgreeSets", spec := "fnExactDepsOfAgreeSets", unfollowed := true, recurses := true, apart := false, narrowed := true }
def FnExactDepsOfAgreeSetsUptoSaid : Prop := fnExactDepsOfAgreeSetsUptoRow.holds Try.pinned (OpenSpec.upto fnExactDepsOfAgreeSetsSpec)

/-- 'laws.FnExactProjectDeps', WHERE WHAT IT READS IS OF BULK AT MOST 1048576: true; the input reads as it did. -/
def fnExactProjectDepsUptoRow : OpenClaim := { program := "ytaomdnibnnobiaa", sum := "ce5dacec09623e133c02538fe4d267394f7e68751da81cdfa6bd0641855b728c", func := "loop.example/g01988/laws.FnExactProjectDeps", spec := "fnExactProjectDeps", unfollowed := true, recurses := true, apart := false, narrowed := true }
def FnExactProjectDepsUptoSaid : Prop := fnExactProjectDepsUptoRow.holds Try.pinned (OpenSpec.upto fnExactProjectDepsSpec)

/-- 'laws.FnExactKeysByTransversals', WHERE WHAT IT READS IS OF BULK AT MOST 1048576: true; the input reads as it did. -/
def fnExactKeysByTransversalsUptoRow : OpenClaim := { program := "ytaomdnibnnobiaa", sum := "ce5dacec09623e133c02538fe4d267394f7e68751da81cdfa6bd0641855b728c", func := "loop.example/g01988/laws.FnExactKeysByTransversals", spec := "fnExactKeysByTransversals", recurses := true, apart := false, narrowed := true }
def FnExactKeysByTransversalsUptoSaid : Prop := fnExactKeysByTransversalsUptoRow.holds Try.pinned (OpenSpec.upto fnExactKeysByTransversalsSpec)

/-- 'laws.FnExactMinimalDeps', WHERE WHAT IT READS IS OF BULK AT MOST 1048576: true; the input reads as it did. -/
def fnExactMinimalDepsUptoRow : OpenClaim := { program := "ytaomdnibnnobiaa", sum := "ce5dacec09623e133c02538fe4d267394f7e68751da81cdfa6bd0641855b728c", func := "loop.example/g01988/laws.FnExactMinimalDeps", spec := "fnExactMinimalDeps", unfollowed := true, recurses := true, apart := false, narrowed := true }
def FnExactMinimalDepsUptoSaid : Prop := fnExactMinimalDepsUptoRow.holds Try.pinned (OpenSpec.upto fnExactMinimalDepsSpec)

/-- 'laws.FnExactViolatedBorder', WHERE WHAT IT READS IS OF BULK AT MOST 1048576: true; the input reads as it did. -/
def fnExactViolatedBorderUptoRow : OpenClaim := { program := "ytaomdnibnnobiaa", sum := "ce5dacec09623e133c02538fe4d267394f7e68751da81cdfa6bd0641855b728c", func := "loop.example/g01988/laws.FnExactViolatedBorder", spec := "fnExactViolatedBorder", unfollowed := true, recurses := true, apart := false, narrowed := true }
def FnExactViolatedBorderUptoSaid : Prop := fnExactViolatedBorderUptoRow.holds Try.pinned (OpenSpec.upto fnExactViolatedBorderSpec)

/-- 'laws.FnExactMinimalKeys', WHERE WHAT IT READS IS OF BULK AT MOST 1048576: true; the input reads as it did. -/
def fnExactMinimalKeysUptoRow : OpenClaim := { program := "ytaomdnibnnobiaa", sum := "ce5dacec09623e133c02538fe4d267394f7e68751da81cdfa6bd0641855b728c", func := "loop.example/g01988/laws.FnExactMinimalKeys", spec := "fnExactMinimalKeys", unfollowed := true, recurses := true, apart := false, narrowed := true }
def FnExactMinimalKeysUptoSaid : Prop := fnExactMinimalKeysUptoRow.holds Try.pinned (OpenSpec.upto fnExactMinimalKeysSpec)

/-- 'laws.FnExactDepsByTransversals', WHERE WHAT IT READS IS OF BULK AT MOST 1048576: true; the input reads as it did. -/
def fnExactDepsByTransversalsUptoRow : OpenClaim := { program := "ytaomdnibnnobiaa", sum := "ce5dacec09623e133c02538fe4d267394f7e68751da81cdfa6bd0641855b728c", func := "loop.example/g01988/laws.FnExactDepsByTransversals", spec := "fnExactDepsByTransversals", unfollowed := true, recurses := true, apart := false, narrowed := true }
def FnExactDepsByTransversalsUptoSaid : Prop := fnExactDepsByTransversalsUptoRow.holds Try.pinned (OpenSpec.upto fnExactDepsByTransversalsSpec)

/-- 'laws.FnExactApproximateDeps', WHERE WHAT IT READS IS OF BULK AT MOST 1048576: true; the input reads as it did. -/
def fnExactApproximateDepsUptoRow : OpenClaim := { program := "ytaomdnibnnobiaa", sum := "ce5dacec09623e133c02538fe4d267394f7e68751da81cdfa6bd0641855b728c", func := "loop.example/g01988/laws.FnExactApproximateDeps", spec := "fnExactApproximateDeps", unfollowed := true, recurses := true, apart := false, narrowed := true }
def FnExactApproximateDepsUptoSaid : Prop := fnExactApproximateDepsUptoRow.holds Try.pinned (OpenSpec.upto fnExactApproximateDepsSpec)

end Rows
end Go.Proofs.Ytaomdnibnnobiaa
