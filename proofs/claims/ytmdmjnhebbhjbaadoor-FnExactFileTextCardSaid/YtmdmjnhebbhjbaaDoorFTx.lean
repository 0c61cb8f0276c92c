/-
  The text of a file: both sides by one plain function.
-/
import Derived.Test.YtmdmjnhebbhjbaaDoorFTxS
namespace Go.Proofs.YtmdmjnhebbhjbaaDoor
set_option linter.unusedSimpArgs false
set_option linter.unusedVariables false
set_option maxRecDepth 20000
open Go.RowKit
open Go.ChangeShapes Go.WideShapes Go.Deep Go.Joins

set_option maxHeartbeats 2000000 in
theorem sFileText_L (f : Fl) (p : FlP) (b : Bool) (w : World) (h : FileRd w f) (hp : filePl f = p) (hs : PlSz p) (ht : PlTx p) (hb : Is b (FileOk p)) :
    Calls Tryd.prog 5 #[.agg #[.slice f.ch.A f.ch.l.length f.ch.c, .slice f.st.A f.st.l.length f.st.c, .slice f.no.A f.no.l.length f.no.c]] w fun e w' => e = .returned (.string (bs (ftR b p))) ∧ Below w.heap.size w w' := by
  obtain ⟨⟨A1, c1, cs⟩, ⟨A2, c2, ss⟩, ⟨A3, c3, ns⟩⟩ := f
  have HK : Hid (Bk (w.alloc (.cells #[.slice A1 cs.length c1, .slice A2 ss.length c2, .slice A3 ns.length c3] 33)) w.heap.size 33 #[.slice A1 cs.length c1, .slice A2 ss.length c2, .slice A3 ns.length c3]) := Bk.new w _ _
  have HA := Lib.hid (h.alloc (.cells #[.slice A1 cs.length c1, .slice A2 ss.length c2, .slice A3 ns.length c3] 33))
  have hcv := sOk_L w.heap.size ⟨⟨A1, c1, cs⟩, ⟨A2, c2, ss⟩, ⟨A3, c3, ns⟩⟩ p b (w.alloc (.cells #[.slice A1 cs.length c1, .slice A2 ss.length c2, .slice A3 ns.length c3] 33)) (FBox.of_bk HK.out) HA.out hp hs ht hb
  have HP := Lib.hid hp
  have HB := Lib.hid hb
  clear h hp hb
  cases b
  · go_enter Tryd.func5, Tryd.ntmps5
    go_wp2_with fail
    refine hcv.mono ?_
    rintro e w2 ⟨rfl, hb2⟩
    have hB : Below w.heap.size w w2 := Below.next (by go_grown) hb2
    clear hb2 hcv
    go_wp2_with fail
    go_ret
    exact ⟨rfl, hB⟩
  · go_enter Tryd.func5, Tryd.ntmps5
    go_wp2_with fail
    refine hcv.mono ?_
    rintro e w2 ⟨rfl, hb2⟩
    have hB : Below w.heap.size w w2 := Below.next (by go_grown) hb2
    have HK2 := Lib.hid (HK.out.next hb2)
    have HA2 := Lib.hid (HA.out.below hb2)
    clear hb2 hcv
    go_wp2_with fail
    refine (sFileText_go A1 A2 A3 c1 c2 c3 cs ss ns p w2 HA2.out HP.out hs ht (HB.out.1 rfl) w.heap.size (FBox.of_bk HK2.out)).mono ?_
    rintro e w3 ⟨rfl, hb3⟩
    have hB3 := Below.next hB hb3
    clear hb3
    go_wp2_with fail
    go_ret
    exact ⟨rfl, hB3⟩
end Go.Proofs.YtmdmjnhebbhjbaaDoor
