/-
  DERIVED. GIVEN WITH THE SEED: THE CARDS: each row of YtmdmjnhebbhjbaaGreatDoorRows.lean that lists a variable, with what it lists TIED to the program's text (the seventh form; the later family's looks); each row that meets fmt, with fmt's text TOLD by the authors' own Lean function (tested against real Go, not proved from fmt's source: count such statements apart). THE CARD IS WHAT COUNTS. Prove the row's statement (the work); the ties are given (YtmdmjnhebbhjbaaGreatDoorTie.lean); close each card by the builder's one call (the guide's Derived/Test/ToyasCard.lean, 'card_holds'). Laid BY PROGRAM, IN A SANDBOX (cutbox-door.mjs). By AI agents, Wed Nov 11 2026. No macro, syntax, notation, axiom, sorry.
-/
import Derived.Test.YtmdmjnhebbhjbaaGreatDoorRows
import GoSem.ClaimSeven
namespace Go.Proofs.YtmdmjnhebbhjbaaGreatDoor
namespace Rows

/-- THE TIED CARD OF 'laws.FnExactReadFile'. -/
def fnExactReadFileCard : Claim7 := { stood := { row := fnExactReadFileRow, standIns := [], harness := (true, "6f12471bbb5f7d871667157bd1a1ed54a066d75b0aa79c0520405d2b71173957"), looks := true }, kinds := [], alts := [], laidByText := true, laidKinds := [.data, .data, .data, .data, .sentinel, .sentinel, .pinned], laidTests := true, laidLooks := .later }
def FnExactReadFileCardSaid : Prop := Claim7.holds Tryz.pinned (.plain (OpenSpec.ofChange fnExactReadFileSpec)) fnExactReadFileCard

/-- THE TIED CARD OF 'laws.FnExactReadInk'. -/
def fnExactReadInkCard : Claim7 := { stood := { row := fnExactReadInkRow, standIns := [], harness := (true, "6f12471bbb5f7d871667157bd1a1ed54a066d75b0aa79c0520405d2b71173957"), looks := true }, kinds := [], alts := [], laidByText := true, laidKinds := [.data, .data, .data, .data, .sentinel, .sentinel, .pinned], laidTests := true, laidLooks := .later }
def FnExactReadInkCardSaid : Prop := Claim7.holds Tryz.pinned (.plain (OpenSpec.ofChange fnExactReadInkSpec)) fnExactReadInkCard

/-- THE TIED CARD OF 'laws.FnExactDecodeInk'. -/
def fnExactDecodeInkCard : Claim7 := { stood := { row := fnExactDecodeInkRow, standIns := [], harness := (true, "6f12471bbb5f7d871667157bd1a1ed54a066d75b0aa79c0520405d2b71173957"), looks := true }, kinds := [], alts := [], laidByText := true, laidKinds := [.data, .pinned], laidTests := true, laidLooks := .later }
def FnExactDecodeInkCardSaid : Prop := Claim7.holds Tryz.pinned (.plain (OpenSpec.ofChange fnExactDecodeInkSpec)) fnExactDecodeInkCard

/-- THE SECOND FORM's CARD OF 'laws.FnExactReadFile'. -/
def fnExactReadFileUptoCard : Claim7 := { stood := { row := fnExactReadFileUptoRow, standIns := [], harness := (true, "6f12471bbb5f7d871667157bd1a1ed54a066d75b0aa79c0520405d2b71173957"), looks := true }, kinds := [], alts := [], laidByText := true, laidKinds := [.data, .data, .data, .data, .sentinel, .sentinel, .pinned], laidTests := true, laidLooks := .later }
def FnExactReadFileUptoCardSaid : Prop := Claim7.holds Tryz.pinned (.plain (OpenSpec.upto fnExactReadFileSpec)) fnExactReadFileUptoCard

/-- THE SECOND FORM's CARD OF 'laws.FnExactReadInk'. -/
def fnExactReadInkUptoCard : Claim7 := { stood := { row := fnExactReadInkUptoRow, standIns := [], harness := (true, "6f12471bbb5f7d871667157bd1a1ed54a066d75b0aa79c0520405d2b71173957"), looks := true }, kinds := [], alts := [], laidByText := true, laidKinds := [.data, .data, .data, .data, .sentinel, .sentinel, .pinned], laidTests := true, laidLooks := .later }
def FnExactReadInkUptoCardSaid : Prop := Claim7.holds Tryz.pinned (.plain (OpenSpec.upto fnExactReadInkSpec)) fnExactReadInkUptoCard

/-- THE SECOND FORM's CARD OF 'laws.FnExactDecodeInk'. -/
def fnExactDecodeInkUptoCard : Claim7 := { stood := { row := fnExactDecodeInkUptoRow, standIns := [], harness := (true, "6f12471bbb5f7d871667157bd1a1ed54a066d75b0aa79c0520405d2b71173957"), looks := true }, kinds := [], alts := [], laidByText := true, laidKinds := [.data, .pinned], laidTests := true, laidLooks := .later }
def FnExactDecodeInkUptoCardSaid : Prop := Claim7.holds Tryz.pinned (.plain (OpenSpec.upto fnExactDecodeInkSpec)) fnExactDecodeInkUptoCard
end Rows
end Go.Proofs.YtmdmjnhebbhjbaaGreatDoor
