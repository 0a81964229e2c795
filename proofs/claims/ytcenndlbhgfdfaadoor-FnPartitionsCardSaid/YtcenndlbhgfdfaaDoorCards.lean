/-
  DERIVED. GIVEN WITH THE SEED: THE CARDS: each row of YtcenndlbhgfdfaaDoorRows.lean that lists a variable, with what it lists TIED to the program's text (the seventh form; the later family's looks); each row that meets fmt, with fmt's text TOLD by the authors' own Lean function (tested against real Go, not proved from fmt's source: count such statements apart). THE CARD IS WHAT COUNTS. Prove the row's statement (the work); the ties are given (YtcenndlbhgfdfaaDoorTie.lean); close each card by the builder's one call (the guide's Derived/Test/ToyasCard.lean, 'card_holds'). Laid BY PROGRAM, IN A SANDBOX (cutbox-door.mjs). By AI agents, Wed Nov 11 2026. No macro, syntax, notation, axiom, sorry.
-/
import Derived.Test.YtcenndlbhgfdfaaDoorRows
import GoSem.ClaimSeven
namespace Go.Proofs.YtcenndlbhgfdfaaDoor
namespace Rows

/-- THE TIED CARD OF 'laws.FnPartitions'. -/
def fnPartitionsCard : Claim7 := { stood := { row := fnPartitionsRow, standIns := [], harness := (true, "391d2d17f7785737f7e5f5adabc6ccde6e57bc5658f65092603d17aaf6770bba"), looks := false }, kinds := [], alts := [], laidByText := true, laidKinds := [.data, .data, .data], laidTests := true, laidLooks := .later }
def FnPartitionsCardSaid : Prop := Claim7.holds Tryd.pinned (.plain (OpenSpec.ofChange fnPartitionsSpec)) fnPartitionsCard

/-- THE SECOND FORM's CARD OF 'laws.FnPartitions'. -/
def fnPartitionsUptoCard : Claim7 := { stood := { row := fnPartitionsUptoRow, standIns := [], harness := (true, "391d2d17f7785737f7e5f5adabc6ccde6e57bc5658f65092603d17aaf6770bba"), looks := false }, kinds := [], alts := [], laidByText := true, laidKinds := [.data, .data, .data], laidTests := true, laidLooks := .later }
def FnPartitionsUptoCardSaid : Prop := Claim7.holds Tryd.pinned (.plain (OpenSpec.upto fnPartitionsSpec)) fnPartitionsUptoCard
end Rows
end Go.Proofs.YtcenndlbhgfdfaaDoor
