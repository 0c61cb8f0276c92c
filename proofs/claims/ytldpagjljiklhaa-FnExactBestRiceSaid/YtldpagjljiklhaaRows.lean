/-
  No cell of these rows narrows 'for every input' (looked for: loops, veiled, ifaces, maps, wideKeys, modest, calm, conditions, laid).
  DERIVED. THE GIVEN ROWS OF THIS SEAT. 3 by the template 'for every input the law returns true; each argument reads behind the call as it read before'; 0 by the template 'total and deterministic' (their statements: YtldpagjljiklhaaTotals.lean).
  GIVEN WITH THE SEED: the statements are not yours to turn. If you find one false, say at which input.
  Laid BY PROGRAM, IN A SANDBOX (cutbox-rows.mjs): the forced cells as the released guide's own fill.sh prints them over the translation 57dd774682e56e1c… (all of the seat's roots in one cut). By AI agents, Wed Nov 11 2026. No macro, syntax, notation, axiom, sorry.
-/
import Derived.Test.YtldpagjljiklhaaChecked
import GoSem.Claim
import GoSem.ClaimJoined
import GoSem.ClaimMapViews
import Derived.JoinedTies
import Derived.KernelRfl
namespace Go.Proofs.Ytldpagjljiklhaa
/- THE CELL 'sum', in the pinned program and in every row, IS THE sha256 OF THE DUMP (.gsa) THAT YtldpagjljiklhaaProg.lean LOADS. Nothing in Lean hashes anything: it is a label: what it is worth is what the hold of that sum in a sandbox is worth. -/
noncomputable def Try.pinned : Pinned := { name := "ytldpagjljiklhaa", sum := "57dd774682e56e1ce74eac79fdb227094587acb6aefeee448ce4c3d9a3888764", checked := Try.checked }
namespace Rows
def none {H : Type} : Left H := { results := [], args := [] }

/-- 'laws.FnExactResidualsOf': WHATEVER THE INPUT: true; the input reads as it did. -/
def fnExactResidualsOfSpec : ChangeSpec := { name := "fnExactResidualsOf", fn := fun _ => fun
  | [d] => { results := [.lit (.bool true)], args := [d] }
  | _ => none }
def fnExactResidualsOfRow : OpenClaim := { program := "ytldpagjljiklhaa", sum := "57dd774682e56e1ce74eac79fdb227094587acb6aefeee448ce4c3d9a3888764", func := "loop.example/g00918/laws.FnExactResidualsOf", spec := "fnExactResidualsOf", apart := false }
def FnExactResidualsOfSaid : Prop := fnExactResidualsOfRow.holds Try.pinned (OpenSpec.ofChange fnExactResidualsOfSpec)

/-- ITS FALSE NEIGHBOUR: 'it returns false'. Refute it at one input. -/
def fnExactResidualsOfWrong : ChangeSpec := { name := "fnExactResidualsOf", fn := fun _ => fun
  | [d] => { results := [.lit (.bool false)], args := [d] }
  | _ => none }
def FnExactResidualsOfWrongFalsely : Prop := fnExactResidualsOfRow.holds Try.pinned (OpenSpec.ofChange fnExactResidualsOfWrong)

/-- 'laws.FnExactFromResiduals': WHATEVER THE INPUT: true; the input reads as it did. -/
def fnExactFromResidualsSpec : ChangeSpec := { name := "fnExactFromResiduals", fn := fun _ => fun
  | [d] => { results := [.lit (.bool true)], args := [d] }
  | _ => none }
def fnExactFromResidualsRow : OpenClaim := { program := "ytldpagjljiklhaa", sum := "57dd774682e56e1ce74eac79fdb227094587acb6aefeee448ce4c3d9a3888764", func := "loop.example/g00918/laws.FnExactFromResiduals", spec := "fnExactFromResiduals", apart := false }
def FnExactFromResidualsSaid : Prop := fnExactFromResidualsRow.holds Try.pinned (OpenSpec.ofChange fnExactFromResidualsSpec)

/-- ITS FALSE NEIGHBOUR: 'it returns false'. Refute it at one input. -/
def fnExactFromResidualsWrong : ChangeSpec := { name := "fnExactFromResiduals", fn := fun _ => fun
  | [d] => { results := [.lit (.bool false)], args := [d] }
  | _ => none }
def FnExactFromResidualsWrongFalsely : Prop := fnExactFromResidualsRow.holds Try.pinned (OpenSpec.ofChange fnExactFromResidualsWrong)

/-- 'laws.FnExactBestRice': WHATEVER THE INPUT: true; the input reads as it did. -/
def fnExactBestRiceSpec : ChangeSpec := { name := "fnExactBestRice", fn := fun _ => fun
  | [d] => { results := [.lit (.bool true)], args := [d] }
  | _ => none }
def fnExactBestRiceRow : OpenClaim := { program := "ytldpagjljiklhaa", sum := "57dd774682e56e1ce74eac79fdb227094587acb6aefeee448ce4c3d9a3888764", func := "loop.example/g00918/laws.FnExactBestRice", spec := "fnExactBestRice", apart := false }
def FnExactBestRiceSaid : Prop := fnExactBestRiceRow.holds Try.pinned (OpenSpec.ofChange fnExactBestRiceSpec)

/-- ITS FALSE NEIGHBOUR: 'it returns false'. Refute it at one input. -/
def fnExactBestRiceWrong : ChangeSpec := { name := "fnExactBestRice", fn := fun _ => fun
  | [d] => { results := [.lit (.bool false)], args := [d] }
  | _ => none }
def FnExactBestRiceWrongFalsely : Prop := fnExactBestRiceRow.holds Try.pinned (OpenSpec.ofChange fnExactBestRiceWrong)

/- THE SECOND FORM. 'bulk': how many values and letters a reading holds, each counted each time it is reached (what is shared counts as often as it is met; a slice's spare places count too). A statement '..UptoSaid' is the law's where the arguments, and the package variables that the reading takes, are together of bulk at most 1048576: NARROWER than '..Said'. Prove '..Said' where nothing that the law and all that it calls make is longer than what came in: it says more and counts as full. Else prove '..UptoSaid'. A law counts once. -/
mutual
def uptoBulk {H : Type} : DataW H → Nat
  | .lit (.string bytes) => bytes.length + 1
  | .lit _ => 1
  | .nil => 1
  | .ptr d => uptoBulk d + 1
  | .slice elems spare => uptoBulkAll elems + uptoBulkAll spare + 1
  | .agg parts => uptoBulkAll parts + 1
  | .iface _ d => uptoBulk d + 1
  | .map entries => uptoBulkEntries entries + 1
  | .held _ => 1
def uptoBulkAll {H : Type} : List (DataW H) → Nat
  | [] => 0
  | d :: r => uptoBulk d + uptoBulkAll r
def uptoBulkEntries {H : Type} : List (Lit × DataW H) → Nat
  | [] => 0
  | x :: r => uptoBulkEntry x + uptoBulkEntries r
def uptoBulkEntry {H : Type} : Lit × DataW H → Nat
  | (.string bytes, d) => bytes.length + uptoBulk d + 1
  | (_, d) => uptoBulk d + 1
 end
def uptoSmall : (H : Type) → List (DataW H) → Bool := fun _ ds => decide (uptoBulkAll ds ≤ 1048576)
def OpenSpec.upto (s : _root_.Go.ChangeSpec) : _root_.Go.OpenSpec := { _root_.Go.OpenSpec.ofChange s with cond := some uptoSmall }

/-- 'laws.FnExactResidualsOf', WHERE WHAT IT READS IS OF BULK AT MOST 1048576: true; the input reads as it did. -/
def fnExactResidualsOfUptoRow : OpenClaim := { program := "ytldpagjljiklhaa", sum := "57dd774682e56e1ce74eac79fdb227094587acb6aefeee448ce4c3d9a3888764", func := "loop.example/g00918/laws.FnExactResidualsOf", spec := "fnExactResidualsOf", apart := false, narrowed := true }
def FnExactResidualsOfUptoSaid : Prop := fnExactResidualsOfUptoRow.holds Try.pinned (OpenSpec.upto fnExactResidualsOfSpec)

/-- 'laws.FnExactFromResiduals', WHERE WHAT IT READS IS OF BULK AT MOST 1048576: true; the input reads as it did. -/
def fnExactFromResidualsUptoRow : OpenClaim := { program := "ytldpagjljiklhaa", sum := "57dd774682e56e1ce74eac79fdb227094587acb6aefeee448ce4c3d9a3888764", func := "loop.example/g00918/laws.FnExactFromResiduals", spec := "fnExactFromResiduals", apart := false, narrowed := true }
def FnExactFromResidualsUptoSaid : Prop := fnExactFromResidualsUptoRow.holds Try.pinned (OpenSpec.upto fnExactFromResidualsSpec)

/-- 'laws.FnExactBestRice', WHERE WHAT IT READS IS OF BULK AT MOST 1048576: true; the input reads as it did. -/
def fnExactBestRiceUptoRow : OpenClaim := { program := "ytldpagjljiklhaa", sum := "57dd774682e56e1ce74eac79fdb227094587acb6aefeee448ce4c3d9a3888764", func := "loop.example/g00918/laws.FnExactBestRice", spec := "fnExactBestRice", apart := false, narrowed := true }
def FnExactBestRiceUptoSaid : Prop := fnExactBestRiceUptoRow.holds Try.pinned (OpenSpec.upto fnExactBestRiceSpec)

end Rows
end Go.Proofs.Ytldpagjljiklhaa
