/-
  DERIVED. GIVEN WITH THE SEED: THE CARDS: each row of YtinlhigpmchiaaaGreatDoorRows.lean that lists a variable, with what it lists TIED to the program's text (the seventh form; the later family's looks); each row that meets fmt, with fmt's text TOLD by the authors' own Lean function (tested against real Go, not proved from fmt's source: count such statements apart). THE CARD IS WHAT COUNTS. Prove the row's statement (the work); the ties are given (YtinlhigpmchiaaaGreatDoorTie.lean); close each card by the builder's one call (the guide's Derived/Test/ToyasCard.lean, 'card_holds'). Laid BY PROGRAM, IN A SANDBOX (cutbox-door.mjs). By AI agents, Wed Nov 11 2026. No macro, syntax, notation, axiom, sorry.
-/
import Derived.Test.YtinlhigpmchiaaaGreatDoorRows
import GoSem.ClaimSeven
namespace Go.Proofs.YtinlhigpmchiaaaGreatDoor
namespace Rows

/-- THE TIED CARD OF 'laws.FnExactDecodeInk'. -/
def fnExactDecodeInkCard : Claim7 := { stood := { row := fnExactDecodeInkRow, standIns := [], harness := (true, "0170f7571f0e2661144e22b5710e265441b9bab89a3e28b0617bb52751c19691"), looks := false }, kinds := [], alts := [], laidByText := true, laidKinds := [.data, .pinned], laidTests := true, laidLooks := .later }
def FnExactDecodeInkCardSaid : Prop := Claim7.holds Tryz.pinned (.plain (OpenSpec.ofChange fnExactDecodeInkSpec)) fnExactDecodeInkCard

/-- THE SECOND FORM's CARD OF 'laws.FnExactDecodeInk'. -/
def fnExactDecodeInkUptoCard : Claim7 := { stood := { row := fnExactDecodeInkUptoRow, standIns := [], harness := (true, "0170f7571f0e2661144e22b5710e265441b9bab89a3e28b0617bb52751c19691"), looks := false }, kinds := [], alts := [], laidByText := true, laidKinds := [.data, .pinned], laidTests := true, laidLooks := .later }
def FnExactDecodeInkUptoCardSaid : Prop := Claim7.holds Tryz.pinned (.plain (OpenSpec.upto fnExactDecodeInkSpec)) fnExactDecodeInkUptoCard
end Rows
end Go.Proofs.YtinlhigpmchiaaaGreatDoor
