/-
  No cell of these rows narrows 'for every input' (looked for: loops, veiled, ifaces, maps, wideKeys, modest, calm, conditions, laid).
  DERIVED. THE GIVEN ROWS OF THIS SEAT. 10 by the template 'for every input the law returns true; each argument reads behind the call as it read before'; 0 by the template 'total and deterministic' (their statements: YtpgklkjidccngaaTotals.lean).
  GIVEN WITH THE SEED: the statements are not yours to turn. If you find one false, say at which input.
  Laid BY PROGRAM, IN A SANDBOX (cutbox-rows.mjs): the forced cells as the released guide's own fill.sh prints them over the translation ad63e53db6c8bf46… (all of the seat's roots in one cut). By AI agents, Wed Nov 11 2026. No macro, syntax, notation, axiom, sorry.
-/
import Derived.Test.YtpgklkjidccngaaChecked
import GoSem.Claim
import GoSem.ClaimJoined
import GoSem.ClaimMapViews
import Derived.JoinedTies
import Derived.KernelRfl
namespace Go.Proofs.Ytpgklkjidccngaa
/- THE CELL 'sum', in the pinned program and in every row, IS THE sha256 OF THE DUMP (.gsa) THAT YtpgklkjidccngaaProg.lean LOADS. Nothing in Lean hashes anything: it is a label: what it is worth is what the hold of that sum in a sandbox is worth. -/
noncomputable def Try.pinned : Pinned := { name := "ytpgklkjidccngaa", sum := "ad63e53db6c8bf46fcd2b3831444f7af4cc2c202ea288884c17cd4971311d4ea", checked := Try.checked }
namespace Rows
def none {H : Type} : Left H := { results := [], args := [] }

/-- 'laws.FnExactNumberBits': WHATEVER THE INPUT: true; the input reads as it did. -/
def fnExactNumberBitsSpec : ChangeSpec := { name := "fnExactNumberBits", fn := fun _ => fun
  | [d1, d2] => { results := [.lit (.bool true)], args := [d1, d2] }
  | _ => none }
def fnExactNumberBitsRow : OpenClaim := { program := "ytpgklkjidccngaa", sum := "ad63e53db6c8bf46fcd2b3831444f7af4cc2c202ea288884c17cd4971311d4ea", func := "loop.example/g00918/laws.FnExactNumberBits", spec := "fnExactNumberBits", apart := false }
def FnExactNumberBitsSaid : Prop := fnExactNumberBitsRow.holds Try.pinned (OpenSpec.ofChange fnExactNumberBitsSpec)

/-- ITS FALSE NEIGHBOUR: 'it returns false'. Refute it at one input. -/
def fnExactNumberBitsWrong : ChangeSpec := { name := "fnExactNumberBits", fn := fun _ => fun
  | [d1, d2] => { results := [.lit (.bool false)], args := [d1, d2] }
  | _ => none }
def FnExactNumberBitsWrongFalsely : Prop := fnExactNumberBitsRow.holds Try.pinned (OpenSpec.ofChange fnExactNumberBitsWrong)

/-- 'laws.FnExactTurnOf': WHATEVER THE INPUT: true; the input reads as it did. -/
def fnExactTurnOfSpec : ChangeSpec := { name := "fnExactTurnOf", fn := fun _ => fun
  | [d1, d2, d3] => { results := [.lit (.bool true)], args := [d1, d2, d3] }
  | _ => none }
def fnExactTurnOfRow : OpenClaim := { program := "ytpgklkjidccngaa", sum := "ad63e53db6c8bf46fcd2b3831444f7af4cc2c202ea288884c17cd4971311d4ea", func := "loop.example/g00918/laws.FnExactTurnOf", spec := "fnExactTurnOf", apart := false }
def FnExactTurnOfSaid : Prop := fnExactTurnOfRow.holds Try.pinned (OpenSpec.ofChange fnExactTurnOfSpec)

/-- ITS FALSE NEIGHBOUR: 'it returns false'. Refute it at one input. -/
def fnExactTurnOfWrong : ChangeSpec := { name := "fnExactTurnOf", fn := fun _ => fun
  | [d1, d2, d3] => { results := [.lit (.bool false)], args := [d1, d2, d3] }
  | _ => none }
def FnExactTurnOfWrongFalsely : Prop := fnExactTurnOfRow.holds Try.pinned (OpenSpec.ofChange fnExactTurnOfWrong)

/-- 'laws.FnExactRootOf': WHATEVER THE INPUT: true; the input reads as it did. -/
def fnExactRootOfSpec : ChangeSpec := { name := "fnExactRootOf", fn := fun _ => fun
  | [d] => { results := [.lit (.bool true)], args := [d] }
  | _ => none }
def fnExactRootOfRow : OpenClaim := { program := "ytpgklkjidccngaa", sum := "ad63e53db6c8bf46fcd2b3831444f7af4cc2c202ea288884c17cd4971311d4ea", func := "loop.example/g00918/laws.FnExactRootOf", spec := "fnExactRootOf", apart := false }
def FnExactRootOfSaid : Prop := fnExactRootOfRow.holds Try.pinned (OpenSpec.ofChange fnExactRootOfSpec)

/-- ITS FALSE NEIGHBOUR: 'it returns false'. Refute it at one input. -/
def fnExactRootOfWrong : ChangeSpec := { name := "fnExactRootOf", fn := fun _ => fun
  | [d] => { results := [.lit (.bool false)], args := [d] }
  | _ => none }
def FnExactRootOfWrongFalsely : Prop := fnExactRootOfRow.holds Try.pinned (OpenSpec.ofChange fnExactRootOfWrong)

/-- 'laws.FnExactUnpackBits': WHATEVER THE INPUT: true; the input reads as it did. -/
def fnExactUnpackBitsSpec : ChangeSpec := { name := "fnExactUnpackBits", fn := fun _ => fun
  | [d] => { results := [.lit (.bool true)], args := [d] }
  | _ => none }
def fnExactUnpackBitsRow : OpenClaim := { program := "ytpgklkjidccngaa", sum := "ad63e53db6c8bf46fcd2b3831444f7af4cc2c202ea288884c17cd4971311d4ea", func := "loop.example/g00918/laws.FnExactUnpackBits", spec := "fnExactUnpackBits", inPlace := ["internal/abi.NoEscape"], apart := false }
def FnExactUnpackBitsSaid : Prop := fnExactUnpackBitsRow.holds Try.pinned (OpenSpec.ofChange fnExactUnpackBitsSpec)

/-- ITS FALSE NEIGHBOUR: 'it returns false'. Refute it at one input. -/
def fnExactUnpackBitsWrong : ChangeSpec := { name := "fnExactUnpackBits", fn := fun _ => fun
  | [d] => { results := [.lit (.bool false)], args := [d] }
  | _ => none }
def FnExactUnpackBitsWrongFalsely : Prop := fnExactUnpackBitsRow.holds Try.pinned (OpenSpec.ofChange fnExactUnpackBitsWrong)

/-- 'laws.FnExactJoinBoxes': WHATEVER THE INPUT: true; the input reads as it did. -/
def fnExactJoinBoxesSpec : ChangeSpec := { name := "fnExactJoinBoxes", fn := fun _ => fun
  | [d1, d2] => { results := [.lit (.bool true)], args := [d1, d2] }
  | _ => none }
def fnExactJoinBoxesRow : OpenClaim := { program := "ytpgklkjidccngaa", sum := "ad63e53db6c8bf46fcd2b3831444f7af4cc2c202ea288884c17cd4971311d4ea", func := "loop.example/g00918/laws.FnExactJoinBoxes", spec := "fnExactJoinBoxes", apart := false }
def FnExactJoinBoxesSaid : Prop := fnExactJoinBoxesRow.holds Try.pinned (OpenSpec.ofChange fnExactJoinBoxesSpec)

/-- ITS FALSE NEIGHBOUR: 'it returns false'. Refute it at one input. -/
def fnExactJoinBoxesWrong : ChangeSpec := { name := "fnExactJoinBoxes", fn := fun _ => fun
  | [d1, d2] => { results := [.lit (.bool false)], args := [d1, d2] }
  | _ => none }
def FnExactJoinBoxesWrongFalsely : Prop := fnExactJoinBoxesRow.holds Try.pinned (OpenSpec.ofChange fnExactJoinBoxesWrong)

/-- 'laws.FnExactSameSpots': WHATEVER THE INPUT: true; the input reads as it did. -/
def fnExactSameSpotsSpec : ChangeSpec := { name := "fnExactSameSpots", fn := fun _ => fun
  | [d1, d2] => { results := [.lit (.bool true)], args := [d1, d2] }
  | _ => none }
def fnExactSameSpotsRow : OpenClaim := { program := "ytpgklkjidccngaa", sum := "ad63e53db6c8bf46fcd2b3831444f7af4cc2c202ea288884c17cd4971311d4ea", func := "loop.example/g00918/laws.FnExactSameSpots", spec := "fnExactSameSpots", apart := false }
def FnExactSameSpotsSaid : Prop := fnExactSameSpotsRow.holds Try.pinned (OpenSpec.ofChange fnExactSameSpotsSpec)

/-- ITS FALSE NEIGHBOUR: 'it returns false'. Refute it at one input. -/
def fnExactSameSpotsWrong : ChangeSpec := { name := "fnExactSameSpots", fn := fun _ => fun
  | [d1, d2] => { results := [.lit (.bool false)], args := [d1, d2] }
  | _ => none }
def FnExactSameSpotsWrongFalsely : Prop := fnExactSameSpotsRow.holds Try.pinned (OpenSpec.ofChange fnExactSameSpotsWrong)

/-- 'laws.FnExactSegmentLength': WHATEVER THE INPUT: true; the input reads as it did. -/
def fnExactSegmentLengthSpec : ChangeSpec := { name := "fnExactSegmentLength", fn := fun _ => fun
  | [d1, d2] => { results := [.lit (.bool true)], args := [d1, d2] }
  | _ => none }
def fnExactSegmentLengthRow : OpenClaim := { program := "ytpgklkjidccngaa", sum := "ad63e53db6c8bf46fcd2b3831444f7af4cc2c202ea288884c17cd4971311d4ea", func := "loop.example/g00918/laws.FnExactSegmentLength", spec := "fnExactSegmentLength", apart := false }
def FnExactSegmentLengthSaid : Prop := fnExactSegmentLengthRow.holds Try.pinned (OpenSpec.ofChange fnExactSegmentLengthSpec)

/-- ITS FALSE NEIGHBOUR: 'it returns false'. Refute it at one input. -/
def fnExactSegmentLengthWrong : ChangeSpec := { name := "fnExactSegmentLength", fn := fun _ => fun
  | [d1, d2] => { results := [.lit (.bool false)], args := [d1, d2] }
  | _ => none }
def FnExactSegmentLengthWrongFalsely : Prop := fnExactSegmentLengthRow.holds Try.pinned (OpenSpec.ofChange fnExactSegmentLengthWrong)

/-- 'laws.FnExactSegmentsMeet': WHATEVER THE INPUT: true; the input reads as it did. -/
def fnExactSegmentsMeetSpec : ChangeSpec := { name := "fnExactSegmentsMeet", fn := fun _ => fun
  | [d1, d2, d3, d4] => { results := [.lit (.bool true)], args := [d1, d2, d3, d4] }
  | _ => none }
def fnExactSegmentsMeetRow : OpenClaim := { program := "ytpgklkjidccngaa", sum := "ad63e53db6c8bf46fcd2b3831444f7af4cc2c202ea288884c17cd4971311d4ea", func := "loop.example/g00918/laws.FnExactSegmentsMeet", spec := "fnExactSegmentsMeet", apart := false }
def FnExactSegmentsMeetSaid : Prop := fnExactSegmentsMeetRow.holds Try.pinned (OpenSpec.ofChange fnExactSegmentsMeetSpec)

/-- ITS FALSE NEIGHBOUR: 'it returns false'. Refute it at one input. -/
def fnExactSegmentsMeetWrong : ChangeSpec := { name := "fnExactSegmentsMeet", fn := fun _ => fun
  | [d1, d2, d3, d4] => { results := [.lit (.bool false)], args := [d1, d2, d3, d4] }
  | _ => none }
def FnExactSegmentsMeetWrongFalsely : Prop := fnExactSegmentsMeetRow.holds Try.pinned (OpenSpec.ofChange fnExactSegmentsMeetWrong)

/-- 'laws.FnExactDirectionOf': WHATEVER THE INPUT: true; the input reads as it did. -/
def fnExactDirectionOfSpec : ChangeSpec := { name := "fnExactDirectionOf", fn := fun _ => fun
  | [d1, d2] => { results := [.lit (.bool true)], args := [d1, d2] }
  | _ => none }
def fnExactDirectionOfRow : OpenClaim := { program := "ytpgklkjidccngaa", sum := "ad63e53db6c8bf46fcd2b3831444f7af4cc2c202ea288884c17cd4971311d4ea", func := "loop.example/g00918/laws.FnExactDirectionOf", spec := "fnExactDirectionOf", apart := false }
def FnExactDirectionOfSaid : Prop := fnExactDirectionOfRow.holds Try.pinned (OpenSpec.ofChange fnExactDirectionOfSpec)

/-- ITS FALSE NEIGHBOUR: 'it returns false'. Refute it at one input. -/
def fnExactDirectionOfWrong : ChangeSpec := { name := "fnExactDirectionOf", fn := fun _ => fun
  | [d1, d2] => { results := [.lit (.bool false)], args := [d1, d2] }
  | _ => none }
def FnExactDirectionOfWrongFalsely : Prop := fnExactDirectionOfRow.holds Try.pinned (OpenSpec.ofChange fnExactDirectionOfWrong)

/-- 'laws.FnExactRiceBits': WHATEVER THE INPUT: true; the input reads as it did. -/
def fnExactRiceBitsSpec : ChangeSpec := { name := "fnExactRiceBits", fn := fun _ => fun
  | [d1, d2] => { results := [.lit (.bool true)], args := [d1, d2] }
  | _ => none }
def fnExactRiceBitsRow : OpenClaim := { program := "ytpgklkjidccngaa", sum := "ad63e53db6c8bf46fcd2b3831444f7af4cc2c202ea288884c17cd4971311d4ea", func := "loop.example/g00918/laws.FnExactRiceBits", spec := "fnExactRiceBits", inPlace := ["internal/abi.NoEscape", "internal/bytealg.MakeNoZero"], apart := false }
def FnExactRiceBitsSaid : Prop := fnExactRiceBitsRow.holds Try.pinned (OpenSpec.ofChange fnExactRiceBitsSpec)

/-- ITS FALSE NEIGHBOUR: 'it returns false'. Refute it at one input. -/
def fnExactRiceBitsWrong : ChangeSpec := { name := "fnExactRiceBits", fn := fun _ => fun
  | [d1, d2] => { results := [.lit (.bool false)], args := [d1, d2] }
  | _ => none }
def FnExactRiceBitsWrongFalsely : Prop := fnExactRiceBitsRow.holds Try.pinned (OpenSpec.ofChange fnExactRiceBitsWrong)

/- THE SECOND FORM. 'bulk': how many values and letters a reading holds, each counted each time it is reached (what is shared counts as often as it is met; a slice's spare places count too). A statement '..UptoSaid' is the law's where the arguments, and the package variables that the reading takes, are together of bulk at most 1048576: NARROWER than '..Said'. Prove '..Said' where nothing that the law and all that it calls make is longer than what came in: it says more and counts as full. Else prove '..UptoSaid'. A law counts once. -/
mutual
def uptoBulk {H : Type} : DataW H → Nat
  | .lit (.string bytes) => bytes.length + 1
  | .lit _ => 1
  | .nil => 1
  | .ptr d => uptoBulk d + 1
  | .slice elems spare => uptoBulkAll elems + uptoBulkAll spare + 1
  | .agg parts => uptoBulkAll parts + 1
  | .iface _ d => uptoBulk d + 1
  | .map entries => uptoBulkEntries entries + 1
  | .held _ => 1
def uptoBulkAll {H : Type} : List (DataW H) → Nat
  | [] => 0
  | d :: r => uptoBulk d + uptoBulkAll r
def uptoBulkEntries {H : Type} : List (Lit × DataW H) → Nat
  | [] => 0
  | x :: r => uptoBulkEntry x + uptoBulkEntries r
def uptoBulkEntry {H : Type} : Lit × DataW H → Nat
  | (.string bytes, d) => bytes.length + uptoBulk d + 1
  | (_, d) => uptoBulk d + 1
 end
def uptoSmall : (H : Type) → List (DataW H) → Bool := fun _ ds => decide (uptoBulkAll ds ≤ 1048576)
def OpenSpec.upto (s : _root_.Go.ChangeSpec) : _root_.Go.OpenSpec := { _root_.Go.OpenSpec.ofChange s with cond := some uptoSmall }

/-- 'laws.FnExactNumberBits', WHERE WHAT IT READS IS OF BULK AT MOST 1048576: true; the input reads as it did. -/
def fnExactNumberBitsUptoRow : OpenClaim := { program := "ytpgklkjidccngaa", sum := "ad63e53db6c8bf46fcd2b3831444f7af4cc2c202ea288884c17cd4971311d4ea", func := "loop.example/g00918/laws.FnExactNumberBits", spec := "fnExactNumberBits", apart := false, narrowed := true }
def FnExactNumberBitsUptoSaid : Prop := fnExactNumberBitsUptoRow.holds Try.pinned (OpenSpec.upto fnExactNumberBitsSpec)

/-- 'laws.FnExactTurnOf', WHERE WHAT IT READS IS OF BULK AT MOST 1048576: true; the input reads as it did. -/
def fnExactTurnOfUptoRow : OpenClaim := { program := "ytpgklkjidccngaa", sum := "ad63e53db6c8bf46fcd2b3831444f7af4cc2c202ea288884c17cd4971311d4ea", func := "loop.example/g00918/laws.FnExactTurnOf", spec := "fnExactTurnOf", apart := false, narrowed := true }
def FnExactTurnOfUptoSaid : Prop := fnExactTurnOfUptoRow.holds Try.pinned (OpenSpec.upto fnExactTurnOfSpec)

/-- 'laws.FnExactRootOf', WHERE WHAT IT READS IS OF BULK AT MOST 1048576: true; the input reads as it did. -/
def fnExactRootOfUptoRow : OpenClaim := { program := "ytpgklkjidccngaa", sum := "ad63e53db6c8bf46fcd2b3831444f7af4cc2c202ea288884c17cd4971311d4ea", func := "loop.example/g00918/laws.FnExactRootOf", spec := "fnExactRootOf", apart := false, narrowed := true }
def FnExactRootOfUptoSaid : Prop := fnExactRootOfUptoRow.holds Try.pinned (OpenSpec.upto fnExactRootOfSpec)

/-- 'laws.FnExactUnpackBits', WHERE WHAT IT READS IS OF BULK AT MOST 1048576: true; the input reads as it did. -/
def fnExactUnpackBitsUptoRow : OpenClaim := { program := "ytpgklkjidccngaa", sum := "ad63e53db6c8bf46fcd2b3831444f7af4cc2c202ea288884c17cd4971311d4ea", func := "loop.example/g00918/laws.FnExactUnpackBits", spec := "fnExactUnpackBits", inPlace := ["internal/abi.NoEscape"], apart := false, narrowed := true }
def FnExactUnpackBitsUptoSaid : Prop := fnExactUnpackBitsUptoRow.holds Try.pinned (OpenSpec.upto fnExactUnpackBitsSpec)

/-- 'laws.FnExactJoinBoxes', WHERE WHAT IT READS IS OF BULK AT MOST 1048576: true; the input reads as it did. -/
def fnExactJoinBoxesUptoRow : OpenClaim := { program := "ytpgklkjidccngaa", sum := "ad63e53db6c8bf46fcd2b3831444f7af4cc2c202ea288884c17cd4971311d4ea", func := "loop.example/g00918/laws.FnExactJoinBoxes", spec := "fnExactJoinBoxes", apart := false, narrowed := true }
def FnExactJoinBoxesUptoSaid : Prop := fnExactJoinBoxesUptoRow.holds Try.pinned (OpenSpec.upto fnExactJoinBoxesSpec)

/-- 'laws.FnExactSameSpots', WHERE WHAT IT READS IS OF BULK AT MOST 1048576: true; the input reads as it did. -/
def fnExactSameSpotsUptoRow : OpenClaim := { program := "ytpgklkjidccngaa", sum := "ad63e53db6c8bf46fcd2b3831444f7af4cc2c202ea288884c17cd4971311d4ea", func := "loop.example/g00918/laws.FnExactSameSpots", spec := "fnExactSameSpots", apart := false, narrowed := true }
def FnExactSameSpotsUptoSaid : Prop := fnExactSameSpotsUptoRow.holds Try.pinned (OpenSpec.upto fnExactSameSpotsSpec)

/-- 'laws.FnExactSegmentLength', WHERE WHAT IT READS IS OF BULK AT MOST 1048576: true; the input reads as it did. -/
def fnExactSegmentLengthUptoRow : OpenClaim := { program := "ytpgklkjidccngaa", sum := "ad63e53db6c8bf46fcd2b3831444f7af4cc2c202ea288884c17cd4971311d4ea", func := "loop.example/g00918/laws.FnExactSegmentLength", spec := "fnExactSegmentLength", apart := false, narrowed := true }
def FnExactSegmentLengthUptoSaid : Prop := fnExactSegmentLengthUptoRow.holds Try.pinned (OpenSpec.upto fnExactSegmentLengthSpec)

/-- 'laws.FnExactSegmentsMeet', WHERE WHAT IT READS IS OF BULK AT MOST 1048576: true; the input reads as it did. -/
def fnExactSegmentsMeetUptoRow : OpenClaim := { program := "ytpgklkjidccngaa", sum := "ad63e53db6c8bf46fcd2b3831444f7af4cc2c202ea288884c17cd4971311d4ea", func := "loop.example/g00918/laws.FnExactSegmentsMeet", spec := "fnExactSegmentsMeet", apart := false, narrowed := true }
def FnExactSegmentsMeetUptoSaid : Prop := fnExactSegmentsMeetUptoRow.holds Try.pinned (OpenSpec.upto fnExactSegmentsMeetSpec)

/-- 'laws.FnExactDirectionOf', WHERE WHAT IT READS IS OF BULK AT MOST 1048576: true; the input reads as it did. -/
def fnExactDirectionOfUptoRow : OpenClaim := { program := "ytpgklkjidccngaa", sum := "ad63e53db6c8bf46fcd2b3831444f7af4cc2c202ea288884c17cd4971311d4ea", func := "loop.example/g00918/laws.FnExactDirectionOf", spec := "fnExactDirectionOf", apart := false, narrowed := true }
def FnExactDirectionOfUptoSaid : Prop := fnExactDirectionOfUptoRow.holds Try.pinned (OpenSpec.upto fnExactDirectionOfSpec)

/-- 'laws.FnExactRiceBits', WHERE WHAT IT READS IS OF BULK AT MOST 1048576: true; the input reads as it did. -/
def fnExactRiceBitsUptoRow : OpenClaim := { program := "ytpgklkjidccngaa", sum := "ad63e53db6c8bf46fcd2b3831444f7af4cc2c202ea288884c17cd4971311d4ea", func := "loop.example/g00918/laws.FnExactRiceBits", spec := "fnExactRiceBits", inPlace := ["internal/abi.NoEscape", "internal/bytealg.MakeNoZero"], apart := false, narrowed := true }
def FnExactRiceBitsUptoSaid : Prop := fnExactRiceBitsUptoRow.holds Try.pinned (OpenSpec.upto fnExactRiceBitsSpec)

end Rows
end Go.Proofs.Ytpgklkjidccngaa
