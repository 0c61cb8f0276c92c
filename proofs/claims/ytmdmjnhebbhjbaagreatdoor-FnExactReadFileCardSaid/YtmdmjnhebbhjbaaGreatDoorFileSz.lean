/-
  A file of the law is sized.
-/
import Derived.Test.YtmdmjnhebbhjbaaGreatDoorFileArg
namespace Go.Proofs.YtmdmjnhebbhjbaaGreatDoor
set_option linter.unusedSimpArgs false
set_option linter.unusedVariables false
set_option maxRecDepth 20000
open Go.RowKit
open Go.ChangeShapes Go.WideShapes Go.Deep Go.Joins

def chSz (c : Ch) : Nat := c.name.size + c.unit.size
def noSz (n : No) : Nat := n.text.size
def rowsSz (s : Sl (Sl Int)) : Nat := s.l.length + cntL cntRow s.l
/-- how much a file is -/
def flSz (f : Fl) : Nat := (f.ch.l.length + cntL chSz f.ch.l) + (f.st.l.length + cntL rowsSz f.st.l) + (f.no.l.length + cntL noSz f.no.l)

end Go.Proofs.YtmdmjnhebbhjbaaGreatDoor
