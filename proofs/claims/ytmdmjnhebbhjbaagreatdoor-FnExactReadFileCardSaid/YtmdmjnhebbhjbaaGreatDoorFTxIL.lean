/-
  The program's text of a file, valid or not.
-/
import Derived.Test.YtmdmjnhebbhjbaaGreatDoorFTxI
namespace Go.Proofs.YtmdmjnhebbhjbaaGreatDoor
set_option linter.unusedSimpArgs false
set_option linter.unusedVariables false
set_option maxRecDepth 20000
open Go.RowKit
open Go.ChangeShapes Go.WideShapes Go.Deep Go.Joins

set_option maxHeartbeats 2000000 in
theorem iFileText_L (f : Fl) (p : FlP) (b : Bool) (w : World) (h : FileRd w f) (hp : filePl f = p) (hs : PlSz p) (ht : PlTx p) (hb : Is b (FileOk p)) (htab : Tab10 w) :
    Calls Tryz.prog 23 #[.agg #[.slice f.ch.A f.ch.l.length f.ch.c, .slice f.st.A f.st.l.length f.st.c, .slice f.no.A f.no.l.length f.no.c]] w fun e w' => e = .returned (.string (bs (ftR b p))) ∧ Below w.heap.size w w' := by
  obtain ⟨⟨A1, c1, cs⟩, ⟨A2, c2, ss⟩, ⟨A3, c3, ns⟩⟩ := f
  cases b
  · have hcv := iValid_L ⟨⟨A1, c1, cs⟩, ⟨A2, c2, ss⟩, ⟨A3, c3, ns⟩⟩ p false _ (h.alloc (.cells #[.slice A1 cs.length c1, .slice A2 ss.length c2, .slice A3 ns.length c3] 26)) hp hs ht hb
    clear h hp hs ht hb htab
    go_enter Tryz.func23, Tryz.ntmps23
    go_wp2_with fail
    refine hcv.mono ?_
    rintro e w2 ⟨rfl, hb2⟩
    have hB : Below w.heap.size w w2 := Below.next (by go_grown) hb2
    clear hb2 hcv
    go_wp2_with fail
    go_ret
    exact ⟨rfl, hB⟩
  · exact iFileText_go A1 A2 A3 c1 c2 c3 cs ss ns p w h hp hs ht (hb.1 rfl) htab
end Go.Proofs.YtmdmjnhebbhjbaaGreatDoor
