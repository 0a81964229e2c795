/-
  No cell of these rows narrows 'for every input' (looked for: loops, veiled, ifaces, maps, wideKeys, modest, calm, conditions, laid).
  DERIVED. THE GIVEN ROWS OF THIS SEAT. 7 by the template 'for every input the law returns true; each argument reads behind the call as it read before'; 0 by the template 'total and deterministic' (their statements: YtjbmpnbfiahdhaaTotals.lean).
  GIVEN WITH THE SEED: the statements are not yours to turn. If you find one false, say at which input.
  Laid BY PROGRAM, IN A SANDBOX (cutbox-rows.mjs): the forced cells as the released guide's own fill.sh prints them over the translation 674453a1a5a20a65… (all of the seat's roots in one cut). By AI agents, Wed Nov 11 2026. No macro, syntax, notation, axiom, sorry.
-/
import Derived.Test.YtjbmpnbfiahdhaaChecked
import GoSem.Claim
import GoSem.ClaimJoined
import GoSem.ClaimMapViews
import Derived.JoinedTies
import Derived.KernelRfl
namespace Go.Proofs.Ytjbmpnbfiahdhaa
/- THE CELL 'sum', in the pinned program and in every row, IS THE sha256 OF THE DUMP (.gsa) THAT YtjbmpnbfiahdhaaProg.lean LOADS. Nothing in Lean hashes anything: it is a label: what it is worth is what the hold of that sum in a sandbox is worth. -/
noncomputable def Try.pinned : Pinned := { name := "ytjbmpnbfiahdhaa", sum := "674453a1a5a20a6517fe318f166960bc7b850f2f8aa6907884e90435c669f71b", checked := Try.checked }
namespace Rows
def none {H : Type} : Left H := { results := [], args := [] }

/-- 'laws.FnExactArmstrongTable': WHATEVER THE INPUT: true; the input reads as it did. -/
def fnExactArmstrongTableSpec : ChangeSpec := { name := "fnExactArmstrongTable", fn := fun _ => fun
  | [d1, d2] => { results := [.lit (.bool true)], args := [d1, d2] }
  | _ => none }
def fnExactArmstrongTableRow : OpenClaim := { program := "ytjbmpnbfiahdhaa", sum := "674453a1a5a20a6517fe318f166960bc7b850f2f8aa6907884e90435c669f71b", func := "loop.example/g01988/laws.FnExactArmstrongTable", spec := "fnExactArmstrongTable", apart := false }
def FnExactArmstrongTableSaid : Prop := fnExactArmstrongTableRow.holds Try.pinned (OpenSpec.ofChange fnExactArmstrongTableSpec)

/-- ITS FALSE NEIGHBOUR: 'it returns false'. Refute it at one input. -/
def fnExactArmstrongTableWrong : ChangeSpec := { name := "fnExactArmstrongTable", fn := fun _ => fun
  | [d1, d2] => { results := [.lit (.bool false)], args := [d1, d2] }
  | _ => none }
def FnExactArmstrongTableWrongFalsely : Prop := fnExactArmstrongTableRow.holds Try.pinned (OpenSpec.ofChange fnExactArmstrongTableWrong)

/-- 'laws.FnExactNewSearch': WHATEVER THE INPUT: true; the input reads as it did. -/
def fnExactNewSearchSpec : ChangeSpec := { name := "fnExactNewSearch", fn := fun _ => fun
  | [d1, d2] => { results := [.lit (.bool true)], args := [d1, d2] }
  | _ => none }
def fnExactNewSearchRow : OpenClaim := { program := "ytjbmpnbfiahdhaa", sum := "674453a1a5a20a6517fe318f166960bc7b850f2f8aa6907884e90435c669f71b", func := "loop.example/g01988/laws.FnExactNewSearch", spec := "fnExactNewSearch", apart := false }
def FnExactNewSearchSaid : Prop := fnExactNewSearchRow.holds Try.pinned (OpenSpec.ofChange fnExactNewSearchSpec)

/-- ITS FALSE NEIGHBOUR: 'it returns false'. Refute it at one input. -/
def fnExactNewSearchWrong : ChangeSpec := { name := "fnExactNewSearch", fn := fun _ => fun
  | [d1, d2] => { results := [.lit (.bool false)], args := [d1, d2] }
  | _ => none }
def FnExactNewSearchWrongFalsely : Prop := fnExactNewSearchRow.holds Try.pinned (OpenSpec.ofChange fnExactNewSearchWrong)

/-- 'laws.FnExactRunSearch': WHATEVER THE INPUT: true; the input reads as it did. -/
def fnExactRunSearchSpec : ChangeSpec := { name := "fnExactRunSearch", fn := fun _ => fun
  | [d1, d2] => { results := [.lit (.bool true)], args := [d1, d2] }
  | _ => none }
def fnExactRunSearchRow : OpenClaim := { program := "ytjbmpnbfiahdhaa", sum := "674453a1a5a20a6517fe318f166960bc7b850f2f8aa6907884e90435c669f71b", func := "loop.example/g01988/laws.FnExactRunSearch", spec := "fnExactRunSearch", unfollowed := true, recurses := true, apart := false }
def FnExactRunSearchSaid : Prop := fnExactRunSearchRow.holds Try.pinned (OpenSpec.ofChange fnExactRunSearchSpec)

/-- ITS FALSE NEIGHBOUR: 'it returns false'. Refute it at one input. -/
def fnExactRunSearchWrong : ChangeSpec := { name := "fnExactRunSearch", fn := fun _ => fun
  | [d1, d2] => { results := [.lit (.bool false)], args := [d1, d2] }
  | _ => none }
def FnExactRunSearchWrongFalsely : Prop := fnExactRunSearchRow.holds Try.pinned (OpenSpec.ofChange fnExactRunSearchWrong)

/-- 'laws.FnClosures': WHATEVER THE INPUT: true; the input reads as it did. -/
def fnClosuresSpec : ChangeSpec := { name := "fnClosures", fn := fun _ => fun
  | [d] => { results := [.lit (.bool true)], args := [d] }
  | _ => none }
def fnClosuresRow : OpenClaim := { program := "ytjbmpnbfiahdhaa", sum := "674453a1a5a20a6517fe318f166960bc7b850f2f8aa6907884e90435c669f71b", func := "loop.example/g01988/laws.FnClosures", spec := "fnClosures", apart := false }
def FnClosuresSaid : Prop := fnClosuresRow.holds Try.pinned (OpenSpec.ofChange fnClosuresSpec)

/-- ITS FALSE NEIGHBOUR: 'it returns false'. Refute it at one input. -/
def fnClosuresWrong : ChangeSpec := { name := "fnClosures", fn := fun _ => fun
  | [d] => { results := [.lit (.bool false)], args := [d] }
  | _ => none }
def FnClosuresWrongFalsely : Prop := fnClosuresRow.holds Try.pinned (OpenSpec.ofChange fnClosuresWrong)

/-- 'laws.FnDeps': WHATEVER THE INPUT: true; the input reads as it did. -/
def fnDepsSpec : ChangeSpec := { name := "fnDeps", fn := fun _ => fun
  | [d] => { results := [.lit (.bool true)], args := [d] }
  | _ => none }
def fnDepsRow : OpenClaim := { program := "ytjbmpnbfiahdhaa", sum := "674453a1a5a20a6517fe318f166960bc7b850f2f8aa6907884e90435c669f71b", func := "loop.example/g01988/laws.FnDeps", spec := "fnDeps", inPlace := ["internal/bytealg.IndexByteString", "internal/bytealg.IndexString"], unfollowed := true, recurses := true, named := ["internal/bytealg.MaxLen"], apart := false }
def FnDepsSaid : Prop := fnDepsRow.holds Try.pinned (OpenSpec.ofChange fnDepsSpec)

/-- ITS FALSE NEIGHBOUR: 'it returns false'. Refute it at one input. -/
def fnDepsWrong : ChangeSpec := { name := "fnDeps", fn := fun _ => fun
  | [d] => { results := [.lit (.bool false)], args := [d] }
  | _ => none }
def FnDepsWrongFalsely : Prop := fnDepsRow.holds Try.pinned (OpenSpec.ofChange fnDepsWrong)

/-- 'laws.FnArmstrong': WHATEVER THE INPUT: true; the input reads as it did. -/
def fnArmstrongSpec : ChangeSpec := { name := "fnArmstrong", fn := fun _ => fun
  | [d] => { results := [.lit (.bool true)], args := [d] }
  | _ => none }
def fnArmstrongRow : OpenClaim := { program := "ytjbmpnbfiahdhaa", sum := "674453a1a5a20a6517fe318f166960bc7b850f2f8aa6907884e90435c669f71b", func := "loop.example/g01988/laws.FnArmstrong", spec := "fnArmstrong", unfollowed := true, recurses := true, apart := false }
def FnArmstrongSaid : Prop := fnArmstrongRow.holds Try.pinned (OpenSpec.ofChange fnArmstrongSpec)

/-- ITS FALSE NEIGHBOUR: 'it returns false'. Refute it at one input. -/
def fnArmstrongWrong : ChangeSpec := { name := "fnArmstrong", fn := fun _ => fun
  | [d] => { results := [.lit (.bool false)], args := [d] }
  | _ => none }
def FnArmstrongWrongFalsely : Prop := fnArmstrongRow.holds Try.pinned (OpenSpec.ofChange fnArmstrongWrong)

/-- 'laws.FnKeys': WHATEVER THE INPUT: true; the input reads as it did. -/
def fnKeysSpec : ChangeSpec := { name := "fnKeys", fn := fun _ => fun
  | [d] => { results := [.lit (.bool true)], args := [d] }
  | _ => none }
def fnKeysRow : OpenClaim := { program := "ytjbmpnbfiahdhaa", sum := "674453a1a5a20a6517fe318f166960bc7b850f2f8aa6907884e90435c669f71b", func := "loop.example/g01988/laws.FnKeys", spec := "fnKeys", unfollowed := true, recurses := true, apart := false }
def FnKeysSaid : Prop := fnKeysRow.holds Try.pinned (OpenSpec.ofChange fnKeysSpec)

/-- ITS FALSE NEIGHBOUR: 'it returns false'. Refute it at one input. -/
def fnKeysWrong : ChangeSpec := { name := "fnKeys", fn := fun _ => fun
  | [d] => { results := [.lit (.bool false)], args := [d] }
  | _ => none }
def FnKeysWrongFalsely : Prop := fnKeysRow.holds Try.pinned (OpenSpec.ofChange fnKeysWrong)

/- THE SECOND FORM. 'bulk': how many values and letters a reading holds, each counted each time it is reached (what is shared counts as often as it is met; a slice's spare places count too). A statement '..UptoSaid' is the law's where the arguments, and the package variables that the reading takes, are together of bulk at most 1048576: NARROWER than '..Said'. Prove '..Said' where nothing that the law and all that it calls make is longer than what came in: it says more and counts as full. Else prove '..UptoSaid'. A law counts once. -/
mutual
def uptoBulk {H : Type} : DataW H → Nat
  | .lit (.string bytes) => bytes.length + 1
  | .lit _ => 1
  | .nil => 1
  | .ptr d => uptoBulk d + 1
  | .slice elems spare => uptoBulkAll elems + uptoBulkAll spare + 1
  | .agg parts => uptoBulkAll parts + 1
  | .iface _ d => uptoBulk d + 1
  | .map entries => uptoBulkEntries entries + 1
  | .held _ => 1
def uptoBulkAll {H : Type} : List (DataW H) → Nat
  | [] => 0
  | d :: r => uptoBulk d + uptoBulkAll r
def uptoBulkEntries {H : Type} : List (Lit × DataW H) → Nat
  | [] => 0
  | x :: r => uptoBulkEntry x + uptoBulkEntries r
def uptoBulkEntry {H : Type} : Lit × DataW H → Nat
  | (.string bytes, d) => bytes.length + uptoBulk d + 1
  | (_, d) => uptoBulk d + 1
 end
def uptoSmall : (H : Type) → List (DataW H) → Bool := fun _ ds => decide (uptoBulkAll ds ≤ 1048576)
def OpenSpec.upto (s : _root_.Go.ChangeSpec) : _root_.Go.OpenSpec := { _root_.Go.OpenSpec.ofChange s with cond := some uptoSmall }

/-- 'laws.FnExactArmstrongTable', WHERE WHAT IT READS IS OF BULK AT MOST 1048576: true; the input reads as it did. -/
def fnExactArmstrongTableUptoRow : OpenClaim := { program := "ytjbmpnbfiahdhaa", sum := "674453a1a5a20a6517fe318f166960bc7b850f2f8aa6907884e90435c669f71b", func := "loop.example/g01988/laws.FnExactArmstrongTable", spec := "fnExactArmstrongTable", apart := false, narrowed := true }
def FnExactArmstrongTableUptoSaid : Prop := fnExactArmstrongTableUptoRow.holds Try.pinned (OpenSpec.upto fnExactArmstrongTableSpec)

/-- 'laws.FnExactNewSearch', WHERE WHAT IT READS IS OF BULK AT MOST 1048576: true; the input reads as it did. -/
def fnExactNewSearchUptoRow : OpenClaim := { program := "ytjbmpnbfiahdhaa", sum := "674453a1a5a20a6517fe318f166960bc7b850f2f8aa6907884e90435c669f71b", func := "loop.example/g01988/laws.FnExactNewSearch", spec := "fnExactNewSearch", apart := false, narrowed := true }
def FnExactNewSearchUptoSaid : Prop := fnExactNewSearchUptoRow.holds Try.pinned (OpenSpec.upto fnExactNewSearchSpec)

/-- 'laws.FnExactRunSearch', WHERE WHAT IT READS IS OF BULK AT MOST 1048576: true; the input reads as it did. -/
def fnExactRunSearchUptoRow : OpenClaim := { program := "ytjbmpnbfiahdhaa", sum := "674453a1a5a20a6517fe318f166960bc7b850f2f8aa6907884e90435c669f71b", func := "loop.example/g01988/laws.FnExactRunSearch", spec := "fnExactRunSearch", unfollowed := true, recurses := true, apart := false, narrowed := true }
def FnExactRunSearchUptoSaid : Prop := fnExactRunSearchUptoRow.holds Try.pinned (OpenSpec.upto fnExactRunSearchSpec)

/-- 'laws.FnClosures', WHERE WHAT IT READS IS OF BULK AT MOST 1048576: true; the input reads as it did. -/
def fnClosuresUptoRow : OpenClaim := { program := "ytjbmpnbfiahdhaa", sum := "674453a1a5a20a6517fe318f166960bc7b850f2f8aa6907884e90435c669f71b", func := "loop.example/g01988/laws.FnClosures", spec := "fnClosures", apart := false, narrowed := true }
def FnClosuresUptoSaid : Prop := fnClosuresUptoRow.holds Try.pinned (OpenSpec.upto fnClosuresSpec)

/-- 'laws.FnDeps', WHERE WHAT IT READS IS OF BULK AT MOST 1048576: true; the input reads as it did. -/
def fnDepsUptoRow : OpenClaim := { program := "ytjbmpnbfiahdhaa", sum := "674453a1a5a20a6517fe318f166960bc7b850f2f8aa6907884e90435c669f71b", func := "loop.example/g01988/laws.FnDeps", spec := "fnDeps", inPlace := ["internal/bytealg.IndexByteString", "internal/bytealg.IndexString"], unfollowed := true, recurses := true, named := ["internal/bytealg.MaxLen"], apart := false, narrowed := true }
def FnDepsUptoSaid : Prop := fnDepsUptoRow.holds Try.pinned (OpenSpec.upto fnDepsSpec)

/-- 'laws.FnArmstrong', WHERE WHAT IT READS IS OF BULK AT MOST 1048576: true; the input reads as it did. -/
def fnArmstrongUptoRow : OpenClaim := { program := "ytjbmpnbfiahdhaa", sum := "674453a1a5a20a6517fe318f166960bc7b850f2f8aa6907884e90435c669f71b", func := "loop.example/g01988/laws.FnArmstrong", spec := "fnArmstrong", unfollowed := true, recurses := true, apart := false, narrowed := true }
def FnArmstrongUptoSaid : Prop := fnArmstrongUptoRow.holds Try.pinned (OpenSpec.upto fnArmstrongSpec)

/-- 'laws.FnKeys', WHERE WHAT IT READS IS OF BULK AT MOST 1048576: true; the input reads as it did. -/
def fnKeysUptoRow : OpenClaim := { program := "ytjbmpnbfiahdhaa", sum := "674453a1a5a20a6517fe318f166960bc7b850f2f8aa6907884e90435c669f71b", func := "loop.example/g01988/laws.FnKeys", spec := "fnKeys", unfollowed := true, recurses := true, apart := false, narrowed := true }
def FnKeysUptoSaid : Prop := fnKeysUptoRow.holds Try.pinned (OpenSpec.upto fnKeysSpec)

end Rows
end Go.Proofs.Ytjbmpnbfiahdhaa
