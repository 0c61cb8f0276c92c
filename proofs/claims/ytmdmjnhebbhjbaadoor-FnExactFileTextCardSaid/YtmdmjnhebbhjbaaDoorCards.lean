/-
  DERIVED. GIVEN WITH THE SEED: THE CARDS: each row of YtmdmjnhebbhjbaaDoorRows.lean that lists a variable, with what it lists TIED to the program's text (the seventh form; the later family's looks); each row that meets fmt, with fmt's text TOLD by the authors' own Lean function (tested against real Go, not proved from fmt's source: count such statements apart). THE CARD IS WHAT COUNTS. Prove the row's statement (the work); the ties are given (YtmdmjnhebbhjbaaDoorTie.lean); close each card by the builder's one call (the guide's Derived/Test/ToyasCard.lean, 'card_holds'). Laid BY PROGRAM, IN A SANDBOX (cutbox-door.mjs). By AI agents, Wed Nov 11 2026. No macro, syntax, notation, axiom, sorry.
-/
import Derived.Test.YtmdmjnhebbhjbaaDoorRows
import GoSem.ClaimSeven
namespace Go.Proofs.YtmdmjnhebbhjbaaDoor
namespace Rows

/-- THE TIED CARD OF 'laws.FnExactFileText'. -/
def fnExactFileTextCard : Claim7 := { stood := { row := fnExactFileTextRow, standIns := [], harness := (true, "ab61c6394ef4d284be64b3f4d526e9fbd15a429f028e12321e5b1ad787b215b2"), looks := false }, kinds := [], alts := [], laidByText := true, laidKinds := [.data, .data, .data], laidTests := true, laidLooks := .later }
def FnExactFileTextCardSaid : Prop := Claim7.holds Tryd.pinned (.plain (OpenSpec.ofChange fnExactFileTextSpec)) fnExactFileTextCard

/-- THE SECOND FORM's CARD OF 'laws.FnExactFileText'. -/
def fnExactFileTextUptoCard : Claim7 := { stood := { row := fnExactFileTextUptoRow, standIns := [], harness := (true, "ab61c6394ef4d284be64b3f4d526e9fbd15a429f028e12321e5b1ad787b215b2"), looks := false }, kinds := [], alts := [], laidByText := true, laidKinds := [.data, .data, .data], laidTests := true, laidLooks := .later }
def FnExactFileTextUptoCardSaid : Prop := Claim7.holds Tryd.pinned (.plain (OpenSpec.upto fnExactFileTextSpec)) fnExactFileTextUptoCard
end Rows
end Go.Proofs.YtmdmjnhebbhjbaaDoor
