/-
  DERIVED. GIVEN WITH THE SEED: THE CARDS: each row of YtoaiiffnhecmcaaDoorRows.lean that lists a variable, with what it lists TIED to the program's text (the seventh form; the later family's looks); each row that meets fmt, with fmt's text TOLD by the authors' own Lean function (tested against real Go, not proved from fmt's source: count such statements apart). THE CARD IS WHAT COUNTS. Prove the row's statement (the work); the ties are given (YtoaiiffnhecmcaaDoorTie.lean); close each card by the builder's one call (the guide's Derived/Test/ToyasCard.lean, 'card_holds'). Laid BY PROGRAM, IN A SANDBOX (cutbox-door.mjs). By AI agents, Wed Nov 11 2026. No macro, syntax, notation, axiom, sorry.
-/
import Derived.Test.YtoaiiffnhecmcaaDoorRows
import GoSem.ClaimSeven
namespace Go.Proofs.YtoaiiffnhecmcaaDoor
namespace Rows

/-- THE TIED CARD OF 'palmettelaw09.LexerEqual'. -/
def lexerEqualCard : Claim7 := { stood := { row := lexerEqualRow, standIns := [], harness := (true, "17408628b52e98eb9217bf05c28d6edeef088d8e478f36609b8bf0e019f5de67"), looks := true }, kinds := [], alts := [], laidByText := true, laidKinds := [.data, .data, .data, .sentinel, .sentinel, .listed, .data], laidTests := true, laidLooks := .later }
def LexerEqualCardSaid : Prop := Claim7.holds Tryd.pinned (.plain (OpenSpec.ofChange lexerEqualSpec)) lexerEqualCard

/-- THE SECOND FORM's CARD OF 'palmettelaw09.LexerEqual'. -/
def lexerEqualUptoCard : Claim7 := { stood := { row := lexerEqualUptoRow, standIns := [], harness := (true, "17408628b52e98eb9217bf05c28d6edeef088d8e478f36609b8bf0e019f5de67"), looks := true }, kinds := [], alts := [], laidByText := true, laidKinds := [.data, .data, .data, .sentinel, .sentinel, .listed, .data], laidTests := true, laidLooks := .later }
def LexerEqualUptoCardSaid : Prop := Claim7.holds Tryd.pinned (.plain (OpenSpec.upto lexerEqualSpec)) lexerEqualUptoCard
end Rows
end Go.Proofs.YtoaiiffnhecmcaaDoor
