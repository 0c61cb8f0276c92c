/-
  The test of a file by its plain contents.
-/
import Derived.Test.YtmdmjnhebbhjbaaFileOka
import Derived.Test.YtmdmjnhebbhjbaaFileTo
import Derived.Test.YtmdmjnhebbhjbaaFileW
namespace Go.Proofs.Ytmdmjnhebbhjbaa
set_option linter.unusedSimpArgs false
set_option linter.unusedVariables false
set_option maxRecDepth 20000
open Go.RowKit
open Go.ChangeShapes Go.WideShapes Go.Deep Go.Joins

theorem iValid_L (f : Fl) (p : FlP) (b : Bool) (w : World) (h : FileRd w f) (hp : filePl f = p) (hs : PlSz p) (ht : PlTx p) (hb : b = true ↔ FileOk p) :
    Calls Try.prog 23 #[.agg #[.slice f.ch.A f.ch.l.length f.ch.c, .slice f.st.A f.st.l.length f.st.c, .slice f.no.A f.no.l.length f.no.c]] w fun e w' => e = .returned (.bool b) ∧ Below w.heap.size w w' := by
  subst hp
  exact iValidFile_any f b w h (FileSz.of_pl rfl hs) ht hb
theorem sOk_L (b : Nat) (f : Fl) (p : FlP) (v : Bool) (w : World) (hbx : FBox w b f) (h : FileRd w f) (hp : filePl f = p) (hs : PlSz p) (ht : PlTx p) (hv : v = true ↔ FileOk p) :
    Calls Try.prog 16 #[.pointer (some ⟨b, 0, none⟩)] w fun e w' => e = .returned (.bool v) ∧ Below w.heap.size w w' := by
  subst hp
  exact l03Ok_any b f v w hbx h (FileSz.of_pl rfl hs) ht hv
end Go.Proofs.Ytmdmjnhebbhjbaa
