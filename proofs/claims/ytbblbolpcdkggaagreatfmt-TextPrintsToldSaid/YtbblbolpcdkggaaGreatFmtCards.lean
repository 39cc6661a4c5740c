/-
  DERIVED. GIVEN WITH THE SEED: THE CARDS: each row of YtbblbolpcdkggaaGreatFmtRows.lean that lists a variable, with what it lists TIED to the program's text (the seventh form; the later family's looks); each row that meets fmt, with fmt's text TOLD by the authors' own Lean function (tested against real Go, not proved from fmt's source: count such statements apart). THE CARD IS WHAT COUNTS. Prove the row's statement (the work); the ties are given (YtbblbolpcdkggaaGreatFmtTie.lean); close each card by the builder's one call (the guide's Derived/Test/ToyasCard.lean, 'card_holds'). Laid BY PROGRAM, IN A SANDBOX (cutbox-door.mjs). By AI agents, Wed Nov 11 2026. No macro, syntax, notation, axiom, sorry.
-/
import Derived.Test.YtbblbolpcdkggaaGreatFmtRows
import GoSem.ClaimSeven
namespace Go.Proofs.YtbblbolpcdkggaaGreatFmt
namespace Rows

/-- THE TOLD AND TIED CARD OF 'surdlaw29.TextPrints'. -/
def textPrintsCard : Claim7 := { stood := { row := textPrintsRow, standIns := [], harness := (true, "9c0e4d216705248b8e2b62ef2340bd0200445c90ea156c6901dd566d2189677a"), looks := true }, told := true, laidByText := true, laidKinds := [.data, .data, .data, .data, .sentinel, .sentinel, .sentinel, .sentinel, .sentinel, .data, .data, .data, .data, .data, .pinned], laidTests := true, laidLooks := .later, goes := false }
def TextPrintsToldSaid : Prop := Claim7.holds Tryz.pinned (.plain (OpenSpec.ofChange textPrintsSpec)) textPrintsCard
/-- ITS FALSE NEIGHBOUR. Refute it at one input. -/
def TextPrintsToldWrongFalsely : Prop := Claim7.holds Tryz.pinned (.plain (OpenSpec.ofChange textPrintsWrong)) textPrintsCard
end Rows
end Go.Proofs.YtbblbolpcdkggaaGreatFmt
