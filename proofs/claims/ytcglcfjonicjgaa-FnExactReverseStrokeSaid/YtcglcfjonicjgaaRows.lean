/-
  No cell of these rows narrows 'for every input' (looked for: loops, veiled, ifaces, maps, wideKeys, modest, calm, conditions, laid).
  DERIVED. THE GIVEN ROWS OF THIS SEAT. 12 by the template 'for every input the law returns true; each argument reads behind the call as it read before'; 0 by the template 'total and deterministic' (their statements: YtcglcfjonicjgaaTotals.lean).
  GIVEN WITH THE SEED: the statements are not yours to turn. If you find one false, say at which input.
  Laid BY PROGRAM, IN A SANDBOX (cutbox-rows.mjs): the forced cells as the released guide's own fill.sh prints them over the translation 0dfba8765a097a14… (all of the seat's roots in one cut). By AI agents, Wed Nov 11 2026. No macro, syntax, notation, axiom, sorry.
-/
import Derived.Test.YtcglcfjonicjgaaChecked
import GoSem.Claim
import GoSem.ClaimJoined
import GoSem.ClaimMapViews
import Derived.JoinedTies
import Derived.KernelRfl
namespace Go.Proofs.Ytcglcfjonicjgaa
/- THE CELL 'sum', in the pinned program and in every row, IS THE sha256 OF THE DUMP (.gsa) THAT YtcglcfjonicjgaaProg.lean LOADS. Nothing in Lean hashes anything: it is a label: what it is worth is what the hold of that sum in a sandbox is worth. -/
noncomputable def Try.pinned : Pinned := { name := "ytcglcfjonicjgaa", sum := "0dfba8765a097a144a4ae8a47aef029b14ade5f3f6f5548fb9ebc549087bc9af", checked := Try.checked }
namespace Rows
def none {H : Type} : Left H := { results := [], args := [] }

/-- 'laws.FnExactSameSpots': WHATEVER THE INPUT: true; the input reads as it did. -/
def fnExactSameSpotsSpec : ChangeSpec := { name := "fnExactSameSpots", fn := fun _ => fun
  | [d1, d2] => { results := [.lit (.bool true)], args := [d1, d2] }
  | _ => none }
def fnExactSameSpotsRow : OpenClaim := { program := "ytcglcfjonicjgaa", sum := "0dfba8765a097a144a4ae8a47aef029b14ade5f3f6f5548fb9ebc549087bc9af", func := "loop.example/g00918/laws.FnExactSameSpots", spec := "fnExactSameSpots", apart := false }
def FnExactSameSpotsSaid : Prop := fnExactSameSpotsRow.holds Try.pinned (OpenSpec.ofChange fnExactSameSpotsSpec)

/-- ITS FALSE NEIGHBOUR: 'it returns false'. Refute it at one input. -/
def fnExactSameSpotsWrong : ChangeSpec := { name := "fnExactSameSpots", fn := fun _ => fun
  | [d1, d2] => { results := [.lit (.bool false)], args := [d1, d2] }
  | _ => none }
def FnExactSameSpotsWrongFalsely : Prop := fnExactSameSpotsRow.holds Try.pinned (OpenSpec.ofChange fnExactSameSpotsWrong)

/-- 'laws.FnExactValidStroke': WHATEVER THE INPUT: true; the input reads as it did. -/
def fnExactValidStrokeSpec : ChangeSpec := { name := "fnExactValidStroke", fn := fun _ => fun
  | [d] => { results := [.lit (.bool true)], args := [d] }
  | _ => none }
def fnExactValidStrokeRow : OpenClaim := { program := "ytcglcfjonicjgaa", sum := "0dfba8765a097a144a4ae8a47aef029b14ade5f3f6f5548fb9ebc549087bc9af", func := "loop.example/g00918/laws.FnExactValidStroke", spec := "fnExactValidStroke", apart := false }
def FnExactValidStrokeSaid : Prop := fnExactValidStrokeRow.holds Try.pinned (OpenSpec.ofChange fnExactValidStrokeSpec)

/-- ITS FALSE NEIGHBOUR: 'it returns false'. Refute it at one input. -/
def fnExactValidStrokeWrong : ChangeSpec := { name := "fnExactValidStroke", fn := fun _ => fun
  | [d] => { results := [.lit (.bool false)], args := [d] }
  | _ => none }
def FnExactValidStrokeWrongFalsely : Prop := fnExactValidStrokeRow.holds Try.pinned (OpenSpec.ofChange fnExactValidStrokeWrong)

/-- 'laws.FnExactStrokeArea': WHATEVER THE INPUT: true; the input reads as it did. -/
def fnExactStrokeAreaSpec : ChangeSpec := { name := "fnExactStrokeArea", fn := fun _ => fun
  | [d] => { results := [.lit (.bool true)], args := [d] }
  | _ => none }
def fnExactStrokeAreaRow : OpenClaim := { program := "ytcglcfjonicjgaa", sum := "0dfba8765a097a144a4ae8a47aef029b14ade5f3f6f5548fb9ebc549087bc9af", func := "loop.example/g00918/laws.FnExactStrokeArea", spec := "fnExactStrokeArea", apart := false }
def FnExactStrokeAreaSaid : Prop := fnExactStrokeAreaRow.holds Try.pinned (OpenSpec.ofChange fnExactStrokeAreaSpec)

/-- ITS FALSE NEIGHBOUR: 'it returns false'. Refute it at one input. -/
def fnExactStrokeAreaWrong : ChangeSpec := { name := "fnExactStrokeArea", fn := fun _ => fun
  | [d] => { results := [.lit (.bool false)], args := [d] }
  | _ => none }
def FnExactStrokeAreaWrongFalsely : Prop := fnExactStrokeAreaRow.holds Try.pinned (OpenSpec.ofChange fnExactStrokeAreaWrong)

/-- 'laws.FnExactLongestPause': WHATEVER THE INPUT: true; the input reads as it did. -/
def fnExactLongestPauseSpec : ChangeSpec := { name := "fnExactLongestPause", fn := fun _ => fun
  | [d] => { results := [.lit (.bool true)], args := [d] }
  | _ => none }
def fnExactLongestPauseRow : OpenClaim := { program := "ytcglcfjonicjgaa", sum := "0dfba8765a097a144a4ae8a47aef029b14ade5f3f6f5548fb9ebc549087bc9af", func := "loop.example/g00918/laws.FnExactLongestPause", spec := "fnExactLongestPause", apart := false }
def FnExactLongestPauseSaid : Prop := fnExactLongestPauseRow.holds Try.pinned (OpenSpec.ofChange fnExactLongestPauseSpec)

/-- ITS FALSE NEIGHBOUR: 'it returns false'. Refute it at one input. -/
def fnExactLongestPauseWrong : ChangeSpec := { name := "fnExactLongestPause", fn := fun _ => fun
  | [d] => { results := [.lit (.bool false)], args := [d] }
  | _ => none }
def FnExactLongestPauseWrongFalsely : Prop := fnExactLongestPauseRow.holds Try.pinned (OpenSpec.ofChange fnExactLongestPauseWrong)

/-- 'laws.FnExactNearestPoint': WHATEVER THE INPUT: true; the input reads as it did. -/
def fnExactNearestPointSpec : ChangeSpec := { name := "fnExactNearestPoint", fn := fun _ => fun
  | [d1, d2] => { results := [.lit (.bool true)], args := [d1, d2] }
  | _ => none }
def fnExactNearestPointRow : OpenClaim := { program := "ytcglcfjonicjgaa", sum := "0dfba8765a097a144a4ae8a47aef029b14ade5f3f6f5548fb9ebc549087bc9af", func := "loop.example/g00918/laws.FnExactNearestPoint", spec := "fnExactNearestPoint", apart := false }
def FnExactNearestPointSaid : Prop := fnExactNearestPointRow.holds Try.pinned (OpenSpec.ofChange fnExactNearestPointSpec)

/-- ITS FALSE NEIGHBOUR: 'it returns false'. Refute it at one input. -/
def fnExactNearestPointWrong : ChangeSpec := { name := "fnExactNearestPoint", fn := fun _ => fun
  | [d1, d2] => { results := [.lit (.bool false)], args := [d1, d2] }
  | _ => none }
def FnExactNearestPointWrongFalsely : Prop := fnExactNearestPointRow.holds Try.pinned (OpenSpec.ofChange fnExactNearestPointWrong)

/-- 'laws.FnExactBoxOfStroke': WHATEVER THE INPUT: true; the input reads as it did. -/
def fnExactBoxOfStrokeSpec : ChangeSpec := { name := "fnExactBoxOfStroke", fn := fun _ => fun
  | [d] => { results := [.lit (.bool true)], args := [d] }
  | _ => none }
def fnExactBoxOfStrokeRow : OpenClaim := { program := "ytcglcfjonicjgaa", sum := "0dfba8765a097a144a4ae8a47aef029b14ade5f3f6f5548fb9ebc549087bc9af", func := "loop.example/g00918/laws.FnExactBoxOfStroke", spec := "fnExactBoxOfStroke", apart := false }
def FnExactBoxOfStrokeSaid : Prop := fnExactBoxOfStrokeRow.holds Try.pinned (OpenSpec.ofChange fnExactBoxOfStrokeSpec)

/-- ITS FALSE NEIGHBOUR: 'it returns false'. Refute it at one input. -/
def fnExactBoxOfStrokeWrong : ChangeSpec := { name := "fnExactBoxOfStroke", fn := fun _ => fun
  | [d] => { results := [.lit (.bool false)], args := [d] }
  | _ => none }
def FnExactBoxOfStrokeWrongFalsely : Prop := fnExactBoxOfStrokeRow.holds Try.pinned (OpenSpec.ofChange fnExactBoxOfStrokeWrong)

/-- 'laws.FnExactReverseStroke': WHATEVER THE INPUT: true; the input reads as it did. -/
def fnExactReverseStrokeSpec : ChangeSpec := { name := "fnExactReverseStroke", fn := fun _ => fun
  | [d] => { results := [.lit (.bool true)], args := [d] }
  | _ => none }
def fnExactReverseStrokeRow : OpenClaim := { program := "ytcglcfjonicjgaa", sum := "0dfba8765a097a144a4ae8a47aef029b14ade5f3f6f5548fb9ebc549087bc9af", func := "loop.example/g00918/laws.FnExactReverseStroke", spec := "fnExactReverseStroke", apart := false }
def FnExactReverseStrokeSaid : Prop := fnExactReverseStrokeRow.holds Try.pinned (OpenSpec.ofChange fnExactReverseStrokeSpec)

/-- ITS FALSE NEIGHBOUR: 'it returns false'. Refute it at one input. -/
def fnExactReverseStrokeWrong : ChangeSpec := { name := "fnExactReverseStroke", fn := fun _ => fun
  | [d] => { results := [.lit (.bool false)], args := [d] }
  | _ => none }
def FnExactReverseStrokeWrongFalsely : Prop := fnExactReverseStrokeRow.holds Try.pinned (OpenSpec.ofChange fnExactReverseStrokeWrong)

/-- 'laws.FnExactStrokeLength': WHATEVER THE INPUT: true; the input reads as it did. -/
def fnExactStrokeLengthSpec : ChangeSpec := { name := "fnExactStrokeLength", fn := fun _ => fun
  | [d] => { results := [.lit (.bool true)], args := [d] }
  | _ => none }
def fnExactStrokeLengthRow : OpenClaim := { program := "ytcglcfjonicjgaa", sum := "0dfba8765a097a144a4ae8a47aef029b14ade5f3f6f5548fb9ebc549087bc9af", func := "loop.example/g00918/laws.FnExactStrokeLength", spec := "fnExactStrokeLength", apart := false }
def FnExactStrokeLengthSaid : Prop := fnExactStrokeLengthRow.holds Try.pinned (OpenSpec.ofChange fnExactStrokeLengthSpec)

/-- ITS FALSE NEIGHBOUR: 'it returns false'. Refute it at one input. -/
def fnExactStrokeLengthWrong : ChangeSpec := { name := "fnExactStrokeLength", fn := fun _ => fun
  | [d] => { results := [.lit (.bool false)], args := [d] }
  | _ => none }
def FnExactStrokeLengthWrongFalsely : Prop := fnExactStrokeLengthRow.holds Try.pinned (OpenSpec.ofChange fnExactStrokeLengthWrong)

/-- 'laws.FnExactCrossingCount': WHATEVER THE INPUT: true; the input reads as it did. -/
def fnExactCrossingCountSpec : ChangeSpec := { name := "fnExactCrossingCount", fn := fun _ => fun
  | [d1, d2] => { results := [.lit (.bool true)], args := [d1, d2] }
  | _ => none }
def fnExactCrossingCountRow : OpenClaim := { program := "ytcglcfjonicjgaa", sum := "0dfba8765a097a144a4ae8a47aef029b14ade5f3f6f5548fb9ebc549087bc9af", func := "loop.example/g00918/laws.FnExactCrossingCount", spec := "fnExactCrossingCount", apart := false }
def FnExactCrossingCountSaid : Prop := fnExactCrossingCountRow.holds Try.pinned (OpenSpec.ofChange fnExactCrossingCountSpec)

/-- ITS FALSE NEIGHBOUR: 'it returns false'. Refute it at one input. -/
def fnExactCrossingCountWrong : ChangeSpec := { name := "fnExactCrossingCount", fn := fun _ => fun
  | [d1, d2] => { results := [.lit (.bool false)], args := [d1, d2] }
  | _ => none }
def FnExactCrossingCountWrongFalsely : Prop := fnExactCrossingCountRow.holds Try.pinned (OpenSpec.ofChange fnExactCrossingCountWrong)

/-- 'laws.FnExactStraightOf': WHATEVER THE INPUT: true; the input reads as it did. -/
def fnExactStraightOfSpec : ChangeSpec := { name := "fnExactStraightOf", fn := fun _ => fun
  | [d] => { results := [.lit (.bool true)], args := [d] }
  | _ => none }
def fnExactStraightOfRow : OpenClaim := { program := "ytcglcfjonicjgaa", sum := "0dfba8765a097a144a4ae8a47aef029b14ade5f3f6f5548fb9ebc549087bc9af", func := "loop.example/g00918/laws.FnExactStraightOf", spec := "fnExactStraightOf", apart := false }
def FnExactStraightOfSaid : Prop := fnExactStraightOfRow.holds Try.pinned (OpenSpec.ofChange fnExactStraightOfSpec)

/-- ITS FALSE NEIGHBOUR: 'it returns false'. Refute it at one input. -/
def fnExactStraightOfWrong : ChangeSpec := { name := "fnExactStraightOf", fn := fun _ => fun
  | [d] => { results := [.lit (.bool false)], args := [d] }
  | _ => none }
def FnExactStraightOfWrongFalsely : Prop := fnExactStraightOfRow.holds Try.pinned (OpenSpec.ofChange fnExactStraightOfWrong)

/-- 'laws.FnExactBendOf': WHATEVER THE INPUT: true; the input reads as it did. -/
def fnExactBendOfSpec : ChangeSpec := { name := "fnExactBendOf", fn := fun _ => fun
  | [d] => { results := [.lit (.bool true)], args := [d] }
  | _ => none }
def fnExactBendOfRow : OpenClaim := { program := "ytcglcfjonicjgaa", sum := "0dfba8765a097a144a4ae8a47aef029b14ade5f3f6f5548fb9ebc549087bc9af", func := "loop.example/g00918/laws.FnExactBendOf", spec := "fnExactBendOf", apart := false }
def FnExactBendOfSaid : Prop := fnExactBendOfRow.holds Try.pinned (OpenSpec.ofChange fnExactBendOfSpec)

/-- ITS FALSE NEIGHBOUR: 'it returns false'. Refute it at one input. -/
def fnExactBendOfWrong : ChangeSpec := { name := "fnExactBendOf", fn := fun _ => fun
  | [d] => { results := [.lit (.bool false)], args := [d] }
  | _ => none }
def FnExactBendOfWrongFalsely : Prop := fnExactBendOfRow.holds Try.pinned (OpenSpec.ofChange fnExactBendOfWrong)

/-- 'laws.FnExactDirectionsOf': WHATEVER THE INPUT: true; the input reads as it did. -/
def fnExactDirectionsOfSpec : ChangeSpec := { name := "fnExactDirectionsOf", fn := fun _ => fun
  | [d] => { results := [.lit (.bool true)], args := [d] }
  | _ => none }
def fnExactDirectionsOfRow : OpenClaim := { program := "ytcglcfjonicjgaa", sum := "0dfba8765a097a144a4ae8a47aef029b14ade5f3f6f5548fb9ebc549087bc9af", func := "loop.example/g00918/laws.FnExactDirectionsOf", spec := "fnExactDirectionsOf", apart := false }
def FnExactDirectionsOfSaid : Prop := fnExactDirectionsOfRow.holds Try.pinned (OpenSpec.ofChange fnExactDirectionsOfSpec)

/-- ITS FALSE NEIGHBOUR: 'it returns false'. Refute it at one input. -/
def fnExactDirectionsOfWrong : ChangeSpec := { name := "fnExactDirectionsOf", fn := fun _ => fun
  | [d] => { results := [.lit (.bool false)], args := [d] }
  | _ => none }
def FnExactDirectionsOfWrongFalsely : Prop := fnExactDirectionsOfRow.holds Try.pinned (OpenSpec.ofChange fnExactDirectionsOfWrong)

/- THE SECOND FORM. 'bulk': how many values and letters a reading holds, each counted each time it is reached (what is shared counts as often as it is met; a slice's spare places count too). A statement '..UptoSaid' is the law's where the arguments, and the package variables that the reading takes, are together of bulk at most 1048576: NARROWER than '..Said'. Prove '..Said' where nothing that the law and all that it calls make is longer than what came in: it says more and counts as full. Else prove '..UptoSaid'. A law counts once. -/
mutual
def uptoBulk {H : Type} : DataW H → Nat
  | .lit (.string bytes) => bytes.length + 1
  | .lit _ => 1
  | .nil => 1
  | .ptr d => uptoBulk d + 1
  | .slice elems spare => uptoBulkAll elems + uptoBulkAll spare + 1
  | .agg parts => uptoBulkAll parts + 1
  | .iface _ d => uptoBulk d + 1
  | .map entries => uptoBulkEntries entries + 1
  | .held _ => 1
def uptoBulkAll {H : Type} : List (DataW H) → Nat
  | [] => 0
  | d :: r => uptoBulk d + uptoBulkAll r
def uptoBulkEntries {H : Type} : List (Lit × DataW H) → Nat
  | [] => 0
  | x :: r => uptoBulkEntry x + uptoBulkEntries r
def uptoBulkEntry {H : Type} : Lit × DataW H → Nat
  | (.string bytes, d) => bytes.length + uptoBulk d + 1
  | (_, d) => uptoBulk d + 1
 end
def uptoSmall : (H : Type) → List (DataW H) → Bool := fun _ ds => decide (uptoBulkAll ds ≤ 1048576)
def OpenSpec.upto (s : _root_.Go.ChangeSpec) : _root_.Go.OpenSpec := { _root_.Go.OpenSpec.ofChange s with cond := some uptoSmall }

/-- 'laws.FnExactSameSpots', WHERE WHAT IT READS IS OF BULK AT MOST 1048576: true; the input reads as it did. -/
def fnExactSameSpotsUptoRow : OpenClaim := { program := "ytcglcfjonicjgaa", sum := "0dfba8765a097a144a4ae8a47aef029b14ade5f3f6f5548fb9ebc549087bc9af", func := "loop.example/g00918/laws.FnExactSameSpots", spec := "fnExactSameSpots", apart := false, narrowed := true }
def FnExactSameSpotsUptoSaid : Prop := fnExactSameSpotsUptoRow.holds Try.pinned (OpenSpec.upto fnExactSameSpotsSpec)

/-- 'laws.FnExactValidStroke', WHERE WHAT IT READS IS OF BULK AT MOST 1048576: true; the input reads as it did. -/
def fnExactValidStrokeUptoRow : OpenClaim := { program := "ytcglcfjonicjgaa", sum := "0dfba8765a097a144a4ae8a47aef029b14ade5f3f6f5548fb9ebc549087bc9af", func := "loop.example/g00918/laws.FnExactValidStroke", spec := "fnExactValidStroke", apart := false, narrowed := true }
def FnExactValidStrokeUptoSaid : Prop := fnExactValidStrokeUptoRow.holds Try.pinned (OpenSpec.upto fnExactValidStrokeSpec)

/-- 'laws.FnExactStrokeArea', WHERE WHAT IT READS IS OF BULK AT MOST 1048576: true; the input reads as it did. -/
def fnExactStrokeAreaUptoRow : OpenClaim := { program := "ytcglcfjonicjgaa", sum := "0dfba8765a097a144a4ae8a47aef029b14ade5f3f6f5548fb9ebc549087bc9af", func := "loop.example/g00918/laws.FnExactStrokeArea", spec := "fnExactStrokeArea", apart := false, narrowed := true }
def FnExactStrokeAreaUptoSaid : Prop := fnExactStrokeAreaUptoRow.holds Try.pinned (OpenSpec.upto fnExactStrokeAreaSpec)

/-- 'laws.FnExactLongestPause', WHERE WHAT IT READS IS OF BULK AT MOST 1048576: true; the input reads as it did. -/
def fnExactLongestPauseUptoRow : OpenClaim := { program := "ytcglcfjonicjgaa", sum := "0dfba8765a097a144a4ae8a47aef029b14ade5f3f6f5548fb9ebc549087bc9af", func := "loop.example/g00918/laws.FnExactLongestPause", spec := "fnExactLongestPause", apart := false, narrowed := true }
def FnExactLongestPauseUptoSaid : Prop := fnExactLongestPauseUptoRow.holds Try.pinned (OpenSpec.upto fnExactLongestPauseSpec)

/-- 'laws.FnExactNearestPoint', WHERE WHAT IT READS IS OF BULK AT MOST 1048576: true; the input reads as it did. -/
def fnExactNearestPointUptoRow : OpenClaim := { program := "ytcglcfjonicjgaa", sum := "0dfba8765a097a144a4ae8a47aef029b14ade5f3f6f5548fb9ebc549087bc9af", func := "loop.example/g00918/laws.FnExactNearestPoint", spec := "fnExactNearestPoint", apart := false, narrowed := true }
def FnExactNearestPointUptoSaid : Prop := fnExactNearestPointUptoRow.holds Try.pinned (OpenSpec.upto fnExactNearestPointSpec)

/-- 'laws.FnExactBoxOfStroke', WHERE WHAT IT READS IS OF BULK AT MOST 1048576: true; the input reads as it did. -/
def fnExactBoxOfStrokeUptoRow : OpenClaim := { program := "ytcglcfjonicjgaa", sum := "0dfba8765a097a144a4ae8a47aef029b14ade5f3f6f5548fb9ebc549087bc9af", func := "loop.example/g00918/laws.FnExactBoxOfStroke", spec := "fnExactBoxOfStroke", apart := false, narrowed := true }
def FnExactBoxOfStrokeUptoSaid : Prop := fnExactBoxOfStrokeUptoRow.holds Try.pinned (OpenSpec.upto fnExactBoxOfStrokeSpec)

/-- 'laws.FnExactReverseStroke', WHERE WHAT IT READS IS OF BULK AT MOST 1048576: true; the input reads as it did. -/
def fnExactReverseStrokeUptoRow : OpenClaim := { program := "ytcglcfjonicjgaa", sum := "0dfba8765a097a144a4ae8a47aef029b14ade5f3f6f5548fb9ebc549087bc9af", func := "loop.example/g00918/laws.FnExactReverseStroke", spec := "fnExactReverseStroke", apart := false, narrowed := true }
def FnExactReverseStrokeUptoSaid : Prop := fnExactReverseStrokeUptoRow.holds Try.pinned (OpenSpec.upto fnExactReverseStrokeSpec)

/-- 'laws.FnExactStrokeLength', WHERE WHAT IT READS IS OF BULK AT MOST 1048576: true; the input reads as it did. -/
def fnExactStrokeLengthUptoRow : OpenClaim := { program := "ytcglcfjonicjgaa", sum := "0dfba8765a097a144a4ae8a47aef029b14ade5f3f6f5548fb9ebc549087bc9af", func := "loop.example/g00918/laws.FnExactStrokeLength", spec := "fnExactStrokeLength", apart := false, narrowed := true }
def FnExactStrokeLengthUptoSaid : Prop := fnExactStrokeLengthUptoRow.holds Try.pinned (OpenSpec.upto fnExactStrokeLengthSpec)

/-- 'laws.FnExactCrossingCount', WHERE WHAT IT READS IS OF BULK AT MOST 1048576: true; the input reads as it did. -/
def fnExactCrossingCountUptoRow : OpenClaim := { program := "ytcglcfjonicjgaa", sum := "0dfba8765a097a144a4ae8a47aef029b14ade5f3f6f5548fb9ebc549087bc9af", func := "loop.example/g00918/laws.FnExactCrossingCount", spec := "fnExactCrossingCount", apart := false, narrowed := true }
def FnExactCrossingCountUptoSaid : Prop := fnExactCrossingCountUptoRow.holds Try.pinned (OpenSpec.upto fnExactCrossingCountSpec)

/-- 'laws.FnExactStraightOf', WHERE WHAT IT READS IS OF BULK AT MOST 1048576: true; the input reads as it did. -/
def fnExactStraightOfUptoRow : OpenClaim := { program := "ytcglcfjonicjgaa", sum := "0dfba8765a097a144a4ae8a47aef029b14ade5f3f6f5548fb9ebc549087bc9af", func := "loop.example/g00918/laws.FnExactStraightOf", spec := "fnExactStraightOf", apart := false, narrowed := true }
def FnExactStraightOfUptoSaid : Prop := fnExactStraightOfUptoRow.holds Try.pinned (OpenSpec.upto fnExactStraightOfSpec)

/-- 'laws.FnExactBendOf', WHERE WHAT IT READS IS OF BULK AT MOST 1048576: true; the input reads as it did. -/
def fnExactBendOfUptoRow : OpenClaim := { program := "ytcglcfjonicjgaa", sum := "0dfba8765a097a144a4ae8a47aef029b14ade5f3f6f5548fb9ebc549087bc9af", func := "loop.example/g00918/laws.FnExactBendOf", spec := "fnExactBendOf", apart := false, narrowed := true }
def FnExactBendOfUptoSaid : Prop := fnExactBendOfUptoRow.holds Try.pinned (OpenSpec.upto fnExactBendOfSpec)

/-- 'laws.FnExactDirectionsOf', WHERE WHAT IT READS IS OF BULK AT MOST 1048576: true; the input reads as it did. -/
def fnExactDirectionsOfUptoRow : OpenClaim := { program := "ytcglcfjonicjgaa", sum := "0dfba8765a097a144a4ae8a47aef029b14ade5f3f6f5548fb9ebc549087bc9af", func := "loop.example/g00918/laws.FnExactDirectionsOf", spec := "fnExactDirectionsOf", apart := false, narrowed := true }
def FnExactDirectionsOfUptoSaid : Prop := fnExactDirectionsOfUptoRow.holds Try.pinned (OpenSpec.upto fnExactDirectionsOfSpec)

end Rows
end Go.Proofs.Ytcglcfjonicjgaa
