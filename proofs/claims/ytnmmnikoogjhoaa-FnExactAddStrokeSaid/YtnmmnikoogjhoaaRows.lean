/-
  No cell of these rows narrows 'for every input' (looked for: loops, veiled, ifaces, maps, wideKeys, modest, calm, conditions, laid).
  DERIVED. THE GIVEN ROWS OF THIS SEAT. 8 by the template 'for every input the law returns true; each argument reads behind the call as it read before'; 0 by the template 'total and deterministic' (their statements: YtnmmnikoogjhoaaTotals.lean).
  GIVEN WITH THE SEED: the statements are not yours to turn. If you find one false, say at which input.
  Laid BY PROGRAM, IN A SANDBOX (cutbox-rows.mjs): the forced cells as the released guide's own fill.sh prints them over the translation 1d86a206c8d6f546… (all of the seat's roots in one cut). By AI agents, Wed Nov 11 2026. No macro, syntax, notation, axiom, sorry.
-/
import Derived.Test.YtnmmnikoogjhoaaChecked
import GoSem.Claim
import GoSem.ClaimJoined
import GoSem.ClaimMapViews
import Derived.JoinedTies
import Derived.KernelRfl
namespace Go.Proofs.Ytnmmnikoogjhoaa
/- THE CELL 'sum', in the pinned program and in every row, IS THE sha256 OF THE DUMP (.gsa) THAT YtnmmnikoogjhoaaProg.lean LOADS. Nothing in Lean hashes anything: it is a label: what it is worth is what the hold of that sum in a sandbox is worth. -/
noncomputable def Try.pinned : Pinned := { name := "ytnmmnikoogjhoaa", sum := "1d86a206c8d6f54667700ea48ce63c3d1cc42218ad1e4cbaf99f93231bdaa4e6", checked := Try.checked }
namespace Rows
def none {H : Type} : Left H := { results := [], args := [] }

/-- 'laws.FnExactValidInk': WHATEVER THE INPUT: true; the input reads as it did. -/
def fnExactValidInkSpec : ChangeSpec := { name := "fnExactValidInk", fn := fun _ => fun
  | [d] => { results := [.lit (.bool true)], args := [d] }
  | _ => none }
def fnExactValidInkRow : OpenClaim := { program := "ytnmmnikoogjhoaa", sum := "1d86a206c8d6f54667700ea48ce63c3d1cc42218ad1e4cbaf99f93231bdaa4e6", func := "loop.example/g00918/laws.FnExactValidInk", spec := "fnExactValidInk", apart := false }
def FnExactValidInkSaid : Prop := fnExactValidInkRow.holds Try.pinned (OpenSpec.ofChange fnExactValidInkSpec)

/-- ITS FALSE NEIGHBOUR: 'it returns false'. Refute it at one input. -/
def fnExactValidInkWrong : ChangeSpec := { name := "fnExactValidInk", fn := fun _ => fun
  | [d] => { results := [.lit (.bool false)], args := [d] }
  | _ => none }
def FnExactValidInkWrongFalsely : Prop := fnExactValidInkRow.holds Try.pinned (OpenSpec.ofChange fnExactValidInkWrong)

/-- 'laws.FnExactSameInk': WHATEVER THE INPUT: true; the input reads as it did. -/
def fnExactSameInkSpec : ChangeSpec := { name := "fnExactSameInk", fn := fun _ => fun
  | [d1, d2] => { results := [.lit (.bool true)], args := [d1, d2] }
  | _ => none }
def fnExactSameInkRow : OpenClaim := { program := "ytnmmnikoogjhoaa", sum := "1d86a206c8d6f54667700ea48ce63c3d1cc42218ad1e4cbaf99f93231bdaa4e6", func := "loop.example/g00918/laws.FnExactSameInk", spec := "fnExactSameInk", unfollowed := true, recurses := true, apart := false }
def FnExactSameInkSaid : Prop := fnExactSameInkRow.holds Try.pinned (OpenSpec.ofChange fnExactSameInkSpec)

/-- ITS FALSE NEIGHBOUR: 'it returns false'. Refute it at one input. -/
def fnExactSameInkWrong : ChangeSpec := { name := "fnExactSameInk", fn := fun _ => fun
  | [d1, d2] => { results := [.lit (.bool false)], args := [d1, d2] }
  | _ => none }
def FnExactSameInkWrongFalsely : Prop := fnExactSameInkRow.holds Try.pinned (OpenSpec.ofChange fnExactSameInkWrong)

/-- 'laws.FnExactPointCount': WHATEVER THE INPUT: true; the input reads as it did. -/
def fnExactPointCountSpec : ChangeSpec := { name := "fnExactPointCount", fn := fun _ => fun
  | [d] => { results := [.lit (.bool true)], args := [d] }
  | _ => none }
def fnExactPointCountRow : OpenClaim := { program := "ytnmmnikoogjhoaa", sum := "1d86a206c8d6f54667700ea48ce63c3d1cc42218ad1e4cbaf99f93231bdaa4e6", func := "loop.example/g00918/laws.FnExactPointCount", spec := "fnExactPointCount", apart := false }
def FnExactPointCountSaid : Prop := fnExactPointCountRow.holds Try.pinned (OpenSpec.ofChange fnExactPointCountSpec)

/-- ITS FALSE NEIGHBOUR: 'it returns false'. Refute it at one input. -/
def fnExactPointCountWrong : ChangeSpec := { name := "fnExactPointCount", fn := fun _ => fun
  | [d] => { results := [.lit (.bool false)], args := [d] }
  | _ => none }
def FnExactPointCountWrongFalsely : Prop := fnExactPointCountRow.holds Try.pinned (OpenSpec.ofChange fnExactPointCountWrong)

/-- 'laws.FnExactBoxOfInk': WHATEVER THE INPUT: true; the input reads as it did. -/
def fnExactBoxOfInkSpec : ChangeSpec := { name := "fnExactBoxOfInk", fn := fun _ => fun
  | [d] => { results := [.lit (.bool true)], args := [d] }
  | _ => none }
def fnExactBoxOfInkRow : OpenClaim := { program := "ytnmmnikoogjhoaa", sum := "1d86a206c8d6f54667700ea48ce63c3d1cc42218ad1e4cbaf99f93231bdaa4e6", func := "loop.example/g00918/laws.FnExactBoxOfInk", spec := "fnExactBoxOfInk", apart := false }
def FnExactBoxOfInkSaid : Prop := fnExactBoxOfInkRow.holds Try.pinned (OpenSpec.ofChange fnExactBoxOfInkSpec)

/-- ITS FALSE NEIGHBOUR: 'it returns false'. Refute it at one input. -/
def fnExactBoxOfInkWrong : ChangeSpec := { name := "fnExactBoxOfInk", fn := fun _ => fun
  | [d] => { results := [.lit (.bool false)], args := [d] }
  | _ => none }
def FnExactBoxOfInkWrongFalsely : Prop := fnExactBoxOfInkRow.holds Try.pinned (OpenSpec.ofChange fnExactBoxOfInkWrong)

/-- 'laws.FnExactCutInk': WHATEVER THE INPUT: true; the input reads as it did. -/
def fnExactCutInkSpec : ChangeSpec := { name := "fnExactCutInk", fn := fun _ => fun
  | [d1, d2, d3] => { results := [.lit (.bool true)], args := [d1, d2, d3] }
  | _ => none }
def fnExactCutInkRow : OpenClaim := { program := "ytnmmnikoogjhoaa", sum := "1d86a206c8d6f54667700ea48ce63c3d1cc42218ad1e4cbaf99f93231bdaa4e6", func := "loop.example/g00918/laws.FnExactCutInk", spec := "fnExactCutInk", unfollowed := true, recurses := true, apart := false }
def FnExactCutInkSaid : Prop := fnExactCutInkRow.holds Try.pinned (OpenSpec.ofChange fnExactCutInkSpec)

/-- ITS FALSE NEIGHBOUR: 'it returns false'. Refute it at one input. -/
def fnExactCutInkWrong : ChangeSpec := { name := "fnExactCutInk", fn := fun _ => fun
  | [d1, d2, d3] => { results := [.lit (.bool false)], args := [d1, d2, d3] }
  | _ => none }
def FnExactCutInkWrongFalsely : Prop := fnExactCutInkRow.holds Try.pinned (OpenSpec.ofChange fnExactCutInkWrong)

/-- 'laws.FnExactMoveInk': WHATEVER THE INPUT: true; the input reads as it did. -/
def fnExactMoveInkSpec : ChangeSpec := { name := "fnExactMoveInk", fn := fun _ => fun
  | [d1, d2, d3] => { results := [.lit (.bool true)], args := [d1, d2, d3] }
  | _ => none }
def fnExactMoveInkRow : OpenClaim := { program := "ytnmmnikoogjhoaa", sum := "1d86a206c8d6f54667700ea48ce63c3d1cc42218ad1e4cbaf99f93231bdaa4e6", func := "loop.example/g00918/laws.FnExactMoveInk", spec := "fnExactMoveInk", unfollowed := true, recurses := true, apart := false }
def FnExactMoveInkSaid : Prop := fnExactMoveInkRow.holds Try.pinned (OpenSpec.ofChange fnExactMoveInkSpec)

/-- ITS FALSE NEIGHBOUR: 'it returns false'. Refute it at one input. -/
def fnExactMoveInkWrong : ChangeSpec := { name := "fnExactMoveInk", fn := fun _ => fun
  | [d1, d2, d3] => { results := [.lit (.bool false)], args := [d1, d2, d3] }
  | _ => none }
def FnExactMoveInkWrongFalsely : Prop := fnExactMoveInkRow.holds Try.pinned (OpenSpec.ofChange fnExactMoveInkWrong)

/-- 'laws.FnExactAddStroke': WHATEVER THE INPUT: true; the input reads as it did. -/
def fnExactAddStrokeSpec : ChangeSpec := { name := "fnExactAddStroke", fn := fun _ => fun
  | [d1, d2] => { results := [.lit (.bool true)], args := [d1, d2] }
  | _ => none }
def fnExactAddStrokeRow : OpenClaim := { program := "ytnmmnikoogjhoaa", sum := "1d86a206c8d6f54667700ea48ce63c3d1cc42218ad1e4cbaf99f93231bdaa4e6", func := "loop.example/g00918/laws.FnExactAddStroke", spec := "fnExactAddStroke", unfollowed := true, recurses := true, apart := false }
def FnExactAddStrokeSaid : Prop := fnExactAddStrokeRow.holds Try.pinned (OpenSpec.ofChange fnExactAddStrokeSpec)

/-- ITS FALSE NEIGHBOUR: 'it returns false'. Refute it at one input. -/
def fnExactAddStrokeWrong : ChangeSpec := { name := "fnExactAddStroke", fn := fun _ => fun
  | [d1, d2] => { results := [.lit (.bool false)], args := [d1, d2] }
  | _ => none }
def FnExactAddStrokeWrongFalsely : Prop := fnExactAddStrokeRow.holds Try.pinned (OpenSpec.ofChange fnExactAddStrokeWrong)

/-- 'laws.FnExactFileOfInk': WHATEVER THE INPUT: true; the input reads as it did. -/
def fnExactFileOfInkSpec : ChangeSpec := { name := "fnExactFileOfInk", fn := fun _ => fun
  | [d] => { results := [.lit (.bool true)], args := [d] }
  | _ => none }
def fnExactFileOfInkRow : OpenClaim := { program := "ytnmmnikoogjhoaa", sum := "1d86a206c8d6f54667700ea48ce63c3d1cc42218ad1e4cbaf99f93231bdaa4e6", func := "loop.example/g00918/laws.FnExactFileOfInk", spec := "fnExactFileOfInk", apart := false }
def FnExactFileOfInkSaid : Prop := fnExactFileOfInkRow.holds Try.pinned (OpenSpec.ofChange fnExactFileOfInkSpec)

/-- ITS FALSE NEIGHBOUR: 'it returns false'. Refute it at one input. -/
def fnExactFileOfInkWrong : ChangeSpec := { name := "fnExactFileOfInk", fn := fun _ => fun
  | [d] => { results := [.lit (.bool false)], args := [d] }
  | _ => none }
def FnExactFileOfInkWrongFalsely : Prop := fnExactFileOfInkRow.holds Try.pinned (OpenSpec.ofChange fnExactFileOfInkWrong)

/- THE SECOND FORM. 'bulk': how many values and letters a reading holds, each counted each time it is reached (what is shared counts as often as it is met; a slice's spare places count too). A statement '..UptoSaid' is the law's where the arguments, and the package variables that the reading takes, are together of bulk at most 1048576: NARROWER than '..Said'. Prove '..Said' where nothing that the law and all that it calls make is longer than what came in: it says more and counts as full. Else prove '..UptoSaid'. A law counts once. -/
mutual
def uptoBulk {H : Type} : DataW H → Nat
  | .lit (.string bytes) => bytes.length + 1
  | .lit _ => 1
  | .nil => 1
  | .ptr d => uptoBulk d + 1
  | .slice elems spare => uptoBulkAll elems + uptoBulkAll spare + 1
  | .agg parts => uptoBulkAll parts + 1
  | .iface _ d => uptoBulk d + 1
  | .map entries => uptoBulkEntries entries + 1
  | .held _ => 1
def uptoBulkAll {H : Type} : List (DataW H) → Nat
  | [] => 0
  | d :: r => uptoBulk d + uptoBulkAll r
def uptoBulkEntries {H : Type} : List (Lit × DataW H) → Nat
  | [] => 0
  | x :: r => uptoBulkEntry x + uptoBulkEntries r
def uptoBulkEntry {H : Type} : Lit × DataW H → Nat
  | (.string bytes, d) => bytes.length + uptoBulk d + 1
  | (_, d) => uptoBulk d + 1
 end
def uptoSmall : (H : Type) → List (DataW H) → Bool := fun _ ds => decide (uptoBulkAll ds ≤ 1048576)
def OpenSpec.upto (s : _root_.Go.ChangeSpec) : _root_.Go.OpenSpec := { _root_.Go.OpenSpec.ofChange s with cond := some uptoSmall }

/-- 'laws.FnExactValidInk', WHERE WHAT IT READS IS OF BULK AT MOST 1048576: true; the input reads as it did. -/
def fnExactValidInkUptoRow : OpenClaim := { program := "ytnmmnikoogjhoaa", sum := "1d86a206c8d6f54667700ea48ce63c3d1cc42218ad1e4cbaf99f93231bdaa4e6", func := "loop.example/g00918/laws.FnExactValidInk", spec := "fnExactValidInk", apart := false, narrowed := true }
def FnExactValidInkUptoSaid : Prop := fnExactValidInkUptoRow.holds Try.pinned (OpenSpec.upto fnExactValidInkSpec)

/-- 'laws.FnExactSameInk', WHERE WHAT IT READS IS OF BULK AT MOST 1048576: true; the input reads as it did. -/
def fnExactSameInkUptoRow : OpenClaim := { program := "ytnmmnikoogjhoaa", sum := "1d86a206c8d6f54667700ea48ce63c3d1cc42218ad1e4cbaf99f93231bdaa4e6", func := "loop.example/g00918/laws.FnExactSameInk", spec := "fnExactSameInk", unfollowed := true, recurses := true, apart := false, narrowed := true }
def FnExactSameInkUptoSaid : Prop := fnExactSameInkUptoRow.holds Try.pinned (OpenSpec.upto fnExactSameInkSpec)

/-- 'laws.FnExactPointCount', WHERE WHAT IT READS IS OF BULK AT MOST 1048576: true; the input reads as it did. -/
def fnExactPointCountUptoRow : OpenClaim := { program := "ytnmmnikoogjhoaa", sum := "1d86a206c8d6f54667700ea48ce63c3d1cc42218ad1e4cbaf99f93231bdaa4e6", func := "loop.example/g00918/laws.FnExactPointCount", spec := "fnExactPointCount", apart := false, narrowed := true }
def FnExactPointCountUptoSaid : Prop := fnExactPointCountUptoRow.holds Try.pinned (OpenSpec.upto fnExactPointCountSpec)

/-- 'laws.FnExactBoxOfInk', WHERE WHAT IT READS IS OF BULK AT MOST 1048576: true; the input reads as it did. -/
def fnExactBoxOfInkUptoRow : OpenClaim := { program := "ytnmmnikoogjhoaa", sum := "1d86a206c8d6f54667700ea48ce63c3d1cc42218ad1e4cbaf99f93231bdaa4e6", func := "loop.example/g00918/laws.FnExactBoxOfInk", spec := "fnExactBoxOfInk", apart := false, narrowed := true }
def FnExactBoxOfInkUptoSaid : Prop := fnExactBoxOfInkUptoRow.holds Try.pinned (OpenSpec.upto fnExactBoxOfInkSpec)

/-- 'laws.FnExactCutInk', WHERE WHAT IT READS IS OF BULK AT MOST 1048576: true; the input reads as it did. -/
def fnExactCutInkUptoRow : OpenClaim := { program := "ytnmmnikoogjhoaa", sum := "1d86a206c8d6f54667700ea48ce63c3d1cc42218ad1e4cbaf99f93231bdaa4e6", func := "loop.example/g00918/laws.FnExactCutInk", spec := "fnExactCutInk", unfollowed := true, recurses := true, apart := false, narrowed := true }
def FnExactCutInkUptoSaid : Prop := fnExactCutInkUptoRow.holds Try.pinned (OpenSpec.upto fnExactCutInkSpec)

/-- 'laws.FnExactMoveInk', WHERE WHAT IT READS IS OF BULK AT MOST 1048576: true; the input reads as it did. -/
def fnExactMoveInkUptoRow : OpenClaim := { program := "ytnmmnikoogjhoaa", sum := "1d86a206c8d6f54667700ea48ce63c3d1cc42218ad1e4cbaf99f93231bdaa4e6", func := "loop.example/g00918/laws.FnExactMoveInk", spec := "fnExactMoveInk", unfollowed := true, recurses := true, apart := false, narrowed := true }
def FnExactMoveInkUptoSaid : Prop := fnExactMoveInkUptoRow.holds Try.pinned (OpenSpec.upto fnExactMoveInkSpec)

/-- 'laws.FnExactAddStroke', WHERE WHAT IT READS IS OF BULK AT MOST 1048576: true; the input reads as it did. -/
def fnExactAddStrokeUptoRow : OpenClaim := { program := "ytnmmnikoogjhoaa", sum := "1d86a206c8d6f54667700ea48ce63c3d1cc42218ad1e4cbaf99f93231bdaa4e6", func := "loop.example/g00918/laws.FnExactAddStroke", spec := "fnExactAddStroke", unfollowed := true, recurses := true, apart := false, narrowed := true }
def FnExactAddStrokeUptoSaid : Prop := fnExactAddStrokeUptoRow.holds Try.pinned (OpenSpec.upto fnExactAddStrokeSpec)

/-- 'laws.FnExactFileOfInk', WHERE WHAT IT READS IS OF BULK AT MOST 1048576: true; the input reads as it did. -/
def fnExactFileOfInkUptoRow : OpenClaim := { program := "ytnmmnikoogjhoaa", sum := "1d86a206c8d6f54667700ea48ce63c3d1cc42218ad1e4cbaf99f93231bdaa4e6", func := "loop.example/g00918/laws.FnExactFileOfInk", spec := "fnExactFileOfInk", apart := false, narrowed := true }
def FnExactFileOfInkUptoSaid : Prop := fnExactFileOfInkUptoRow.holds Try.pinned (OpenSpec.upto fnExactFileOfInkSpec)

end Rows
end Go.Proofs.Ytnmmnikoogjhoaa
