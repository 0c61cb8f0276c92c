/-
  DERIVED. GIVEN WITH THE SEED: THE CARDS: each row of YtigingjpdlfanaaDoorRows.lean that lists a variable, with what it lists TIED to the program's text (the seventh form; the later family's looks); each row that meets fmt, with fmt's text TOLD by the authors' own Lean function (tested against real Go, not proved from fmt's source: count such statements apart). THE CARD IS WHAT COUNTS. Prove the row's statement (the work); the ties are given (YtigingjpdlfanaaDoorTie.lean); close each card by the builder's one call (the guide's Derived/Test/ToyasCard.lean, 'card_holds'). Laid BY PROGRAM, IN A SANDBOX (cutbox-door.mjs). By AI agents, Wed Nov 11 2026. No macro, syntax, notation, axiom, sorry.
-/
import Derived.Test.YtigingjpdlfanaaDoorRows
import GoSem.ClaimSeven
namespace Go.Proofs.YtigingjpdlfanaaDoor
namespace Rows

/-- THE TIED CARD OF 'laws.FnExactFileText'. -/
def fnExactFileTextCard : Claim7 := { stood := { row := fnExactFileTextRow, standIns := [], harness := (true, "30f6d2112f589b7bc20fbe8b3afce23b7f78aef9972d3f656530acf47d7ce125"), looks := false }, kinds := [], alts := [], laidByText := true, laidKinds := [.data, .data, .data], laidTests := true, laidLooks := .later }
def FnExactFileTextCardSaid : Prop := Claim7.holds Tryd.pinned (.plain (OpenSpec.ofChange fnExactFileTextSpec)) fnExactFileTextCard

/-- THE TIED CARD OF 'laws.FnExactInkText'. -/
def fnExactInkTextCard : Claim7 := { stood := { row := fnExactInkTextRow, standIns := [], harness := (true, "30f6d2112f589b7bc20fbe8b3afce23b7f78aef9972d3f656530acf47d7ce125"), looks := false }, kinds := [], alts := [], laidByText := true, laidKinds := [.data, .data, .data], laidTests := true, laidLooks := .later }
def FnExactInkTextCardSaid : Prop := Claim7.holds Tryd.pinned (.plain (OpenSpec.ofChange fnExactInkTextSpec)) fnExactInkTextCard

/-- THE TIED CARD OF 'laws.FnExactEncodeInk'. -/
def fnExactEncodeInkCard : Claim7 := { stood := { row := fnExactEncodeInkRow, standIns := [], harness := (true, "30f6d2112f589b7bc20fbe8b3afce23b7f78aef9972d3f656530acf47d7ce125"), looks := false }, kinds := [], alts := [], laidByText := true, laidKinds := [.data, .pinned], laidTests := true, laidLooks := .later }
def FnExactEncodeInkCardSaid : Prop := Claim7.holds Tryd.pinned (.plain (OpenSpec.ofChange fnExactEncodeInkSpec)) fnExactEncodeInkCard

/-- THE SECOND FORM's CARD OF 'laws.FnExactFileText'. -/
def fnExactFileTextUptoCard : Claim7 := { stood := { row := fnExactFileTextUptoRow, standIns := [], harness := (true, "30f6d2112f589b7bc20fbe8b3afce23b7f78aef9972d3f656530acf47d7ce125"), looks := false }, kinds := [], alts := [], laidByText := true, laidKinds := [.data, .data, .data], laidTests := true, laidLooks := .later }
def FnExactFileTextUptoCardSaid : Prop := Claim7.holds Tryd.pinned (.plain (OpenSpec.upto fnExactFileTextSpec)) fnExactFileTextUptoCard

/-- THE SECOND FORM's CARD OF 'laws.FnExactInkText'. -/
def fnExactInkTextUptoCard : Claim7 := { stood := { row := fnExactInkTextUptoRow, standIns := [], harness := (true, "30f6d2112f589b7bc20fbe8b3afce23b7f78aef9972d3f656530acf47d7ce125"), looks := false }, kinds := [], alts := [], laidByText := true, laidKinds := [.data, .data, .data], laidTests := true, laidLooks := .later }
def FnExactInkTextUptoCardSaid : Prop := Claim7.holds Tryd.pinned (.plain (OpenSpec.upto fnExactInkTextSpec)) fnExactInkTextUptoCard

/-- THE SECOND FORM's CARD OF 'laws.FnExactEncodeInk'. -/
def fnExactEncodeInkUptoCard : Claim7 := { stood := { row := fnExactEncodeInkUptoRow, standIns := [], harness := (true, "30f6d2112f589b7bc20fbe8b3afce23b7f78aef9972d3f656530acf47d7ce125"), looks := false }, kinds := [], alts := [], laidByText := true, laidKinds := [.data, .pinned], laidTests := true, laidLooks := .later }
def FnExactEncodeInkUptoCardSaid : Prop := Claim7.holds Tryd.pinned (.plain (OpenSpec.upto fnExactEncodeInkSpec)) fnExactEncodeInkUptoCard
end Rows
end Go.Proofs.YtigingjpdlfanaaDoor
