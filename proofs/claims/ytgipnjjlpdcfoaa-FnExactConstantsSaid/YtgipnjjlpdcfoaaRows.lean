/-
  No cell of these rows narrows 'for every input' (looked for: loops, veiled, ifaces, maps, wideKeys, modest, calm, conditions, laid).
  DERIVED. THE GIVEN ROWS OF THIS SEAT. 6 by the template 'for every input the law returns true; each argument reads behind the call as it read before'; 0 by the template 'total and deterministic' (their statements: YtgipnjjlpdcfoaaTotals.lean).
  GIVEN WITH THE SEED: the statements are not yours to turn. If you find one false, say at which input.
  Laid BY PROGRAM, IN A SANDBOX (cutbox-rows.mjs): the forced cells as the released guide's own fill.sh prints them over the translation d4ae8ba395f4ba8a… (all of the seat's roots in one cut). By AI agents, Wed Nov 11 2026. No macro, syntax, notation, axiom, sorry.
-/
import Derived.Test.YtgipnjjlpdcfoaaChecked
import GoSem.Claim
import GoSem.ClaimJoined
import GoSem.ClaimMapViews
import Derived.JoinedTies
import Derived.KernelRfl
namespace Go.Proofs.Ytgipnjjlpdcfoaa
/- THE CELL 'sum', in the pinned program and in every row, IS THE sha256 OF THE DUMP (.gsa) THAT YtgipnjjlpdcfoaaProg.lean LOADS. Nothing in Lean hashes anything: it is a label: what it is worth is what the hold of that sum in a sandbox is worth. -/
noncomputable def Try.pinned : Pinned := { name := "ytgipnjjlpdcfoaa", sum := "d4ae8ba395f4ba8ad329a8296b5cbceed21999f6b317d7ce904dbbc5eecd52d0", checked := Try.checked }
namespace Rows
def none {H : Type} : Left H := { results := [], args := [] }

/-- 'laws.FnExactConstants': WHATEVER THE INPUT: true; the input reads as it did. -/
def fnExactConstantsSpec : ChangeSpec := { name := "fnExactConstants", fn := fun _ => fun
  | [] => { results := [.lit (.bool true)], args := [] }
  | _ => none }
def fnExactConstantsRow : OpenClaim := { program := "ytgipnjjlpdcfoaa", sum := "d4ae8ba395f4ba8ad329a8296b5cbceed21999f6b317d7ce904dbbc5eecd52d0", func := "loop.example/g00918/laws.FnExactConstants", spec := "fnExactConstants", apart := false }
def FnExactConstantsSaid : Prop := fnExactConstantsRow.holds Try.pinned (OpenSpec.ofChange fnExactConstantsSpec)

/-- ITS FALSE NEIGHBOUR: 'it returns false'. Refute it at one input. -/
def fnExactConstantsWrong : ChangeSpec := { name := "fnExactConstants", fn := fun _ => fun
  | [] => { results := [.lit (.bool false)], args := [] }
  | _ => none }
def FnExactConstantsWrongFalsely : Prop := fnExactConstantsRow.holds Try.pinned (OpenSpec.ofChange fnExactConstantsWrong)

/-- 'laws.FnExactChecksumOf': WHATEVER THE INPUT: true; the input reads as it did. -/
def fnExactChecksumOfSpec : ChangeSpec := { name := "fnExactChecksumOf", fn := fun _ => fun
  | [d] => { results := [.lit (.bool true)], args := [d] }
  | _ => none }
def fnExactChecksumOfRow : OpenClaim := { program := "ytgipnjjlpdcfoaa", sum := "d4ae8ba395f4ba8ad329a8296b5cbceed21999f6b317d7ce904dbbc5eecd52d0", func := "loop.example/g00918/laws.FnExactChecksumOf", spec := "fnExactChecksumOf", apart := false }
def FnExactChecksumOfSaid : Prop := fnExactChecksumOfRow.holds Try.pinned (OpenSpec.ofChange fnExactChecksumOfSpec)

/-- ITS FALSE NEIGHBOUR: 'it returns false'. Refute it at one input. -/
def fnExactChecksumOfWrong : ChangeSpec := { name := "fnExactChecksumOf", fn := fun _ => fun
  | [d] => { results := [.lit (.bool false)], args := [d] }
  | _ => none }
def FnExactChecksumOfWrongFalsely : Prop := fnExactChecksumOfRow.holds Try.pinned (OpenSpec.ofChange fnExactChecksumOfWrong)

/-- 'laws.FnExactCodeName': WHATEVER THE INPUT: true; the input reads as it did. -/
def fnExactCodeNameSpec : ChangeSpec := { name := "fnExactCodeName", fn := fun _ => fun
  | [d] => { results := [.lit (.bool true)], args := [d] }
  | _ => none }
def fnExactCodeNameRow : OpenClaim := { program := "ytgipnjjlpdcfoaa", sum := "d4ae8ba395f4ba8ad329a8296b5cbceed21999f6b317d7ce904dbbc5eecd52d0", func := "loop.example/g00918/laws.FnExactCodeName", spec := "fnExactCodeName", apart := false }
def FnExactCodeNameSaid : Prop := fnExactCodeNameRow.holds Try.pinned (OpenSpec.ofChange fnExactCodeNameSpec)

/-- ITS FALSE NEIGHBOUR: 'it returns false'. Refute it at one input. -/
def fnExactCodeNameWrong : ChangeSpec := { name := "fnExactCodeName", fn := fun _ => fun
  | [d] => { results := [.lit (.bool false)], args := [d] }
  | _ => none }
def FnExactCodeNameWrongFalsely : Prop := fnExactCodeNameRow.holds Try.pinned (OpenSpec.ofChange fnExactCodeNameWrong)

/-- 'laws.FnExactValidBox': WHATEVER THE INPUT: true; the input reads as it did. -/
def fnExactValidBoxSpec : ChangeSpec := { name := "fnExactValidBox", fn := fun _ => fun
  | [d] => { results := [.lit (.bool true)], args := [d] }
  | _ => none }
def fnExactValidBoxRow : OpenClaim := { program := "ytgipnjjlpdcfoaa", sum := "d4ae8ba395f4ba8ad329a8296b5cbceed21999f6b317d7ce904dbbc5eecd52d0", func := "loop.example/g00918/laws.FnExactValidBox", spec := "fnExactValidBox", apart := false }
def FnExactValidBoxSaid : Prop := fnExactValidBoxRow.holds Try.pinned (OpenSpec.ofChange fnExactValidBoxSpec)

/-- ITS FALSE NEIGHBOUR: 'it returns false'. Refute it at one input. -/
def fnExactValidBoxWrong : ChangeSpec := { name := "fnExactValidBox", fn := fun _ => fun
  | [d] => { results := [.lit (.bool false)], args := [d] }
  | _ => none }
def FnExactValidBoxWrongFalsely : Prop := fnExactValidBoxRow.holds Try.pinned (OpenSpec.ofChange fnExactValidBoxWrong)

/-- 'laws.FnExactIsWord': WHATEVER THE INPUT: true; the input reads as it did. -/
def fnExactIsWordSpec : ChangeSpec := { name := "fnExactIsWord", fn := fun _ => fun
  | [d] => { results := [.lit (.bool true)], args := [d] }
  | _ => none }
def fnExactIsWordRow : OpenClaim := { program := "ytgipnjjlpdcfoaa", sum := "d4ae8ba395f4ba8ad329a8296b5cbceed21999f6b317d7ce904dbbc5eecd52d0", func := "loop.example/g00918/laws.FnExactIsWord", spec := "fnExactIsWord", apart := false }
def FnExactIsWordSaid : Prop := fnExactIsWordRow.holds Try.pinned (OpenSpec.ofChange fnExactIsWordSpec)

/-- ITS FALSE NEIGHBOUR: 'it returns false'. Refute it at one input. -/
def fnExactIsWordWrong : ChangeSpec := { name := "fnExactIsWord", fn := fun _ => fun
  | [d] => { results := [.lit (.bool false)], args := [d] }
  | _ => none }
def FnExactIsWordWrongFalsely : Prop := fnExactIsWordRow.holds Try.pinned (OpenSpec.ofChange fnExactIsWordWrong)

/-- 'laws.FnExactIsName': WHATEVER THE INPUT: true; the input reads as it did. -/
def fnExactIsNameSpec : ChangeSpec := { name := "fnExactIsName", fn := fun _ => fun
  | [d] => { results := [.lit (.bool true)], args := [d] }
  | _ => none }
def fnExactIsNameRow : OpenClaim := { program := "ytgipnjjlpdcfoaa", sum := "d4ae8ba395f4ba8ad329a8296b5cbceed21999f6b317d7ce904dbbc5eecd52d0", func := "loop.example/g00918/laws.FnExactIsName", spec := "fnExactIsName", apart := false }
def FnExactIsNameSaid : Prop := fnExactIsNameRow.holds Try.pinned (OpenSpec.ofChange fnExactIsNameSpec)

/-- ITS FALSE NEIGHBOUR: 'it returns false'. Refute it at one input. -/
def fnExactIsNameWrong : ChangeSpec := { name := "fnExactIsName", fn := fun _ => fun
  | [d] => { results := [.lit (.bool false)], args := [d] }
  | _ => none }
def FnExactIsNameWrongFalsely : Prop := fnExactIsNameRow.holds Try.pinned (OpenSpec.ofChange fnExactIsNameWrong)

/- THE SECOND FORM. 'bulk': how many values and letters a reading holds, each counted each time it is reached (what is shared counts as often as it is met; a slice's spare places count too). A statement '..UptoSaid' is the law's where the arguments, and the package variables that the reading takes, are together of bulk at most 1048576: NARROWER than '..Said'. Prove '..Said' where nothing that the law and all that it calls make is longer than what came in: it says more and counts as full. Else prove '..UptoSaid'. A law counts once. -/
mutual
def uptoBulk {H : Type} : DataW H → Nat
  | .lit (.string bytes) => bytes.length + 1
  | .lit _ => 1
  | .nil => 1
  | .ptr d => uptoBulk d + 1
  | .slice elems spare => uptoBulkAll elems + uptoBulkAll spare + 1
  | .agg parts => uptoBulkAll parts + 1
  | .iface _ d => uptoBulk d + 1
  | .map entries => uptoBulkEntries entries + 1
  | .held _ => 1
def uptoBulkAll {H : Type} : List (DataW H) → Nat
  | [] => 0
  | d :: r => uptoBulk d + uptoBulkAll r
def uptoBulkEntries {H : Type} : List (Lit × DataW H) → Nat
  | [] => 0
  | x :: r => uptoBulkEntry x + uptoBulkEntries r
def uptoBulkEntry {H : Type} : Lit × DataW H → Nat
  | (.string bytes, d) => bytes.length + uptoBulk d + 1
  | (_, d) => uptoBulk d + 1
 end
def uptoSmall : (H : Type) → List (DataW H) → Bool := fun _ ds => decide (uptoBulkAll ds ≤ 1048576)
def OpenSpec.upto (s : _root_.Go.ChangeSpec) : _root_.Go.OpenSpec := { _root_.Go.OpenSpec.ofChange s with cond := some uptoSmall }

/-- 'laws.FnExactConstants', WHERE WHAT IT READS IS OF BULK AT MOST 1048576: true; the input reads as it did. -/
def fnExactConstantsUptoRow : OpenClaim := { program := "ytgipnjjlpdcfoaa", sum := "d4ae8ba395f4ba8ad329a8296b5cbceed21999f6b317d7ce904dbbc5eecd52d0", func := "loop.example/g00918/laws.FnExactConstants", spec := "fnExactConstants", apart := false, narrowed := true }
def FnExactConstantsUptoSaid : Prop := fnExactConstantsUptoRow.holds Try.pinned (OpenSpec.upto fnExactConstantsSpec)

/-- 'laws.FnExactChecksumOf', WHERE WHAT IT READS IS OF BULK AT MOST 1048576: true; the input reads as it did. -/
def fnExactChecksumOfUptoRow : OpenClaim := { program := "ytgipnjjlpdcfoaa", sum := "d4ae8ba395f4ba8ad329a8296b5cbceed21999f6b317d7ce904dbbc5eecd52d0", func := "loop.example/g00918/laws.FnExactChecksumOf", spec := "fnExactChecksumOf", apart := false, narrowed := true }
def FnExactChecksumOfUptoSaid : Prop := fnExactChecksumOfUptoRow.holds Try.pinned (OpenSpec.upto fnExactChecksumOfSpec)

/-- 'laws.FnExactCodeName', WHERE WHAT IT READS IS OF BULK AT MOST 1048576: true; the input reads as it did. -/
def fnExactCodeNameUptoRow : OpenClaim := { program := "ytgipnjjlpdcfoaa", sum := "d4ae8ba395f4ba8ad329a8296b5cbceed21999f6b317d7ce904dbbc5eecd52d0", func := "loop.example/g00918/laws.FnExactCodeName", spec := "fnExactCodeName", apart := false, narrowed := true }
def FnExactCodeNameUptoSaid : Prop := fnExactCodeNameUptoRow.holds Try.pinned (OpenSpec.upto fnExactCodeNameSpec)

/-- 'laws.FnExactValidBox', WHERE WHAT IT READS IS OF BULK AT MOST 1048576: true; the input reads as it did. -/
def fnExactValidBoxUptoRow : OpenClaim := { program := "ytgipnjjlpdcfoaa", sum := "d4ae8ba395f4ba8ad329a8296b5cbceed21999f6b317d7ce904dbbc5eecd52d0", func := "loop.example/g00918/laws.FnExactValidBox", spec := "fnExactValidBox", apart := false, narrowed := true }
def FnExactValidBoxUptoSaid : Prop := fnExactValidBoxUptoRow.holds Try.pinned (OpenSpec.upto fnExactValidBoxSpec)

/-- 'laws.FnExactIsWord', WHERE WHAT IT READS IS OF BULK AT MOST 1048576: true; the input reads as it did. -/
def fnExactIsWordUptoRow : OpenClaim := { program := "ytgipnjjlpdcfoaa", sum := "d4ae8ba395f4ba8ad329a8296b5cbceed21999f6b317d7ce904dbbc5eecd52d0", func := "loop.example/g00918/laws.FnExactIsWord", spec := "fnExactIsWord", apart := false, narrowed := true }
def FnExactIsWordUptoSaid : Prop := fnExactIsWordUptoRow.holds Try.pinned (OpenSpec.upto fnExactIsWordSpec)

/-- 'laws.FnExactIsName', WHERE WHAT IT READS IS OF BULK AT MOST 1048576: true; the input reads as it did. -/
def fnExactIsNameUptoRow : OpenClaim := { program := "ytgipnjjlpdcfoaa", sum := "d4ae8ba395f4ba8ad329a8296b5cbceed21999f6b317d7ce904dbbc5eecd52d0", func := "loop.example/g00918/laws.FnExactIsName", spec := "fnExactIsName", apart := false, narrowed := true }
def FnExactIsNameUptoSaid : Prop := fnExactIsNameUptoRow.holds Try.pinned (OpenSpec.upto fnExactIsNameSpec)

end Rows
end Go.Proofs.Ytgipnjjlpdcfoaa
