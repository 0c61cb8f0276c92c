/-
  No cell of these rows narrows 'for every input' (looked for: loops, veiled, ifaces, maps, wideKeys, modest, calm, conditions, laid).
  DERIVED. THE GIVEN ROWS OF THIS SEAT. 8 by the template 'for every input the law returns true; each argument reads behind the call as it read before'; 0 by the template 'total and deterministic' (their statements: YtigingjpdlfanaaTotals.lean).
  GIVEN WITH THE SEED: the statements are not yours to turn. If you find one false, say at which input.
  Laid BY PROGRAM, IN A SANDBOX (cutbox-rows.mjs): the forced cells as the released guide's own fill.sh prints them over the translation 678f95fc4208b153… (all of the seat's roots in one cut). By AI agents, Wed Nov 11 2026. No macro, syntax, notation, axiom, sorry.
-/
import Derived.Test.YtigingjpdlfanaaChecked
import GoSem.Claim
import GoSem.ClaimJoined
import GoSem.ClaimMapViews
import Derived.JoinedTies
import Derived.KernelRfl
namespace Go.Proofs.Ytigingjpdlfanaa
/- THE CELL 'sum', in the pinned program and in every row, IS THE sha256 OF THE DUMP (.gsa) THAT YtigingjpdlfanaaProg.lean LOADS. Nothing in Lean hashes anything: it is a label: what it is worth is what the hold of that sum in a sandbox is worth. -/
noncomputable def Try.pinned : Pinned := { name := "ytigingjpdlfanaa", sum := "678f95fc4208b15398196a83fdc0d5f2f26e22a9979f81aa5dd617a07f5d822f", checked := Try.checked }
namespace Rows
def none {H : Type} : Left H := { results := [], args := [] }

/-- 'laws.FnExactFileOfInk': WHATEVER THE INPUT: true; the input reads as it did. -/
def fnExactFileOfInkSpec : ChangeSpec := { name := "fnExactFileOfInk", fn := fun _ => fun
  | [d] => { results := [.lit (.bool true)], args := [d] }
  | _ => none }
def fnExactFileOfInkRow : OpenClaim := { program := "ytigingjpdlfanaa", sum := "678f95fc4208b15398196a83fdc0d5f2f26e22a9979f81aa5dd617a07f5d822f", func := "loop.example/g00918/laws.FnExactFileOfInk", spec := "fnExactFileOfInk", apart := false }
def FnExactFileOfInkSaid : Prop := fnExactFileOfInkRow.holds Try.pinned (OpenSpec.ofChange fnExactFileOfInkSpec)

/-- ITS FALSE NEIGHBOUR: 'it returns false'. Refute it at one input. -/
def fnExactFileOfInkWrong : ChangeSpec := { name := "fnExactFileOfInk", fn := fun _ => fun
  | [d] => { results := [.lit (.bool false)], args := [d] }
  | _ => none }
def FnExactFileOfInkWrongFalsely : Prop := fnExactFileOfInkRow.holds Try.pinned (OpenSpec.ofChange fnExactFileOfInkWrong)

/-- 'laws.FnExactSameFile': WHATEVER THE INPUT: true; the input reads as it did. -/
def fnExactSameFileSpec : ChangeSpec := { name := "fnExactSameFile", fn := fun _ => fun
  | [d1, d2] => { results := [.lit (.bool true)], args := [d1, d2] }
  | _ => none }
def fnExactSameFileRow : OpenClaim := { program := "ytigingjpdlfanaa", sum := "678f95fc4208b15398196a83fdc0d5f2f26e22a9979f81aa5dd617a07f5d822f", func := "loop.example/g00918/laws.FnExactSameFile", spec := "fnExactSameFile", unfollowed := true, recurses := true, apart := false }
def FnExactSameFileSaid : Prop := fnExactSameFileRow.holds Try.pinned (OpenSpec.ofChange fnExactSameFileSpec)

/-- ITS FALSE NEIGHBOUR: 'it returns false'. Refute it at one input. -/
def fnExactSameFileWrong : ChangeSpec := { name := "fnExactSameFile", fn := fun _ => fun
  | [d1, d2] => { results := [.lit (.bool false)], args := [d1, d2] }
  | _ => none }
def FnExactSameFileWrongFalsely : Prop := fnExactSameFileRow.holds Try.pinned (OpenSpec.ofChange fnExactSameFileWrong)

/-- 'laws.FnExactValidFile': WHATEVER THE INPUT: true; the input reads as it did. -/
def fnExactValidFileSpec : ChangeSpec := { name := "fnExactValidFile", fn := fun _ => fun
  | [d] => { results := [.lit (.bool true)], args := [d] }
  | _ => none }
def fnExactValidFileRow : OpenClaim := { program := "ytigingjpdlfanaa", sum := "678f95fc4208b15398196a83fdc0d5f2f26e22a9979f81aa5dd617a07f5d822f", func := "loop.example/g00918/laws.FnExactValidFile", spec := "fnExactValidFile", unfollowed := true, recurses := true, apart := false }
def FnExactValidFileSaid : Prop := fnExactValidFileRow.holds Try.pinned (OpenSpec.ofChange fnExactValidFileSpec)

/-- ITS FALSE NEIGHBOUR: 'it returns false'. Refute it at one input. -/
def fnExactValidFileWrong : ChangeSpec := { name := "fnExactValidFile", fn := fun _ => fun
  | [d] => { results := [.lit (.bool false)], args := [d] }
  | _ => none }
def FnExactValidFileWrongFalsely : Prop := fnExactValidFileRow.holds Try.pinned (OpenSpec.ofChange fnExactValidFileWrong)

/-- 'laws.FnExactChannelNamed': WHATEVER THE INPUT: true; the input reads as it did. -/
def fnExactChannelNamedSpec : ChangeSpec := { name := "fnExactChannelNamed", fn := fun _ => fun
  | [d1, d2] => { results := [.lit (.bool true)], args := [d1, d2] }
  | _ => none }
def fnExactChannelNamedRow : OpenClaim := { program := "ytigingjpdlfanaa", sum := "678f95fc4208b15398196a83fdc0d5f2f26e22a9979f81aa5dd617a07f5d822f", func := "loop.example/g00918/laws.FnExactChannelNamed", spec := "fnExactChannelNamed", unfollowed := true, recurses := true, apart := false }
def FnExactChannelNamedSaid : Prop := fnExactChannelNamedRow.holds Try.pinned (OpenSpec.ofChange fnExactChannelNamedSpec)

/-- ITS FALSE NEIGHBOUR: 'it returns false'. Refute it at one input. -/
def fnExactChannelNamedWrong : ChangeSpec := { name := "fnExactChannelNamed", fn := fun _ => fun
  | [d1, d2] => { results := [.lit (.bool false)], args := [d1, d2] }
  | _ => none }
def FnExactChannelNamedWrongFalsely : Prop := fnExactChannelNamedRow.holds Try.pinned (OpenSpec.ofChange fnExactChannelNamedWrong)

/-- 'laws.FnExactColumnOf': WHATEVER THE INPUT: true; the input reads as it did. -/
def fnExactColumnOfSpec : ChangeSpec := { name := "fnExactColumnOf", fn := fun _ => fun
  | [d1, d2] => { results := [.lit (.bool true)], args := [d1, d2] }
  | _ => none }
def fnExactColumnOfRow : OpenClaim := { program := "ytigingjpdlfanaa", sum := "678f95fc4208b15398196a83fdc0d5f2f26e22a9979f81aa5dd617a07f5d822f", func := "loop.example/g00918/laws.FnExactColumnOf", spec := "fnExactColumnOf", unfollowed := true, recurses := true, apart := false }
def FnExactColumnOfSaid : Prop := fnExactColumnOfRow.holds Try.pinned (OpenSpec.ofChange fnExactColumnOfSpec)

/-- ITS FALSE NEIGHBOUR: 'it returns false'. Refute it at one input. -/
def fnExactColumnOfWrong : ChangeSpec := { name := "fnExactColumnOf", fn := fun _ => fun
  | [d1, d2] => { results := [.lit (.bool false)], args := [d1, d2] }
  | _ => none }
def FnExactColumnOfWrongFalsely : Prop := fnExactColumnOfRow.holds Try.pinned (OpenSpec.ofChange fnExactColumnOfWrong)

/-- 'laws.FnExactNotesOf': WHATEVER THE INPUT: true; the input reads as it did. -/
def fnExactNotesOfSpec : ChangeSpec := { name := "fnExactNotesOf", fn := fun _ => fun
  | [d1, d2] => { results := [.lit (.bool true)], args := [d1, d2] }
  | _ => none }
def fnExactNotesOfRow : OpenClaim := { program := "ytigingjpdlfanaa", sum := "678f95fc4208b15398196a83fdc0d5f2f26e22a9979f81aa5dd617a07f5d822f", func := "loop.example/g00918/laws.FnExactNotesOf", spec := "fnExactNotesOf", unfollowed := true, recurses := true, apart := false }
def FnExactNotesOfSaid : Prop := fnExactNotesOfRow.holds Try.pinned (OpenSpec.ofChange fnExactNotesOfSpec)

/-- ITS FALSE NEIGHBOUR: 'it returns false'. Refute it at one input. -/
def fnExactNotesOfWrong : ChangeSpec := { name := "fnExactNotesOf", fn := fun _ => fun
  | [d1, d2] => { results := [.lit (.bool false)], args := [d1, d2] }
  | _ => none }
def FnExactNotesOfWrongFalsely : Prop := fnExactNotesOfRow.holds Try.pinned (OpenSpec.ofChange fnExactNotesOfWrong)

/-- 'laws.FnExactAddNote': WHATEVER THE INPUT: true; the input reads as it did. -/
def fnExactAddNoteSpec : ChangeSpec := { name := "fnExactAddNote", fn := fun _ => fun
  | [d1, d2] => { results := [.lit (.bool true)], args := [d1, d2] }
  | _ => none }
def fnExactAddNoteRow : OpenClaim := { program := "ytigingjpdlfanaa", sum := "678f95fc4208b15398196a83fdc0d5f2f26e22a9979f81aa5dd617a07f5d822f", func := "loop.example/g00918/laws.FnExactAddNote", spec := "fnExactAddNote", unfollowed := true, recurses := true, apart := false }
def FnExactAddNoteSaid : Prop := fnExactAddNoteRow.holds Try.pinned (OpenSpec.ofChange fnExactAddNoteSpec)

/-- ITS FALSE NEIGHBOUR: 'it returns false'. Refute it at one input. -/
def fnExactAddNoteWrong : ChangeSpec := { name := "fnExactAddNote", fn := fun _ => fun
  | [d1, d2] => { results := [.lit (.bool false)], args := [d1, d2] }
  | _ => none }
def FnExactAddNoteWrongFalsely : Prop := fnExactAddNoteRow.holds Try.pinned (OpenSpec.ofChange fnExactAddNoteWrong)

/-- 'laws.FnExactInkOfFile': WHATEVER THE INPUT: true; the input reads as it did. -/
def fnExactInkOfFileSpec : ChangeSpec := { name := "fnExactInkOfFile", fn := fun _ => fun
  | [d] => { results := [.lit (.bool true)], args := [d] }
  | _ => none }
def fnExactInkOfFileRow : OpenClaim := { program := "ytigingjpdlfanaa", sum := "678f95fc4208b15398196a83fdc0d5f2f26e22a9979f81aa5dd617a07f5d822f", func := "loop.example/g00918/laws.FnExactInkOfFile", spec := "fnExactInkOfFile", unfollowed := true, recurses := true, apart := false }
def FnExactInkOfFileSaid : Prop := fnExactInkOfFileRow.holds Try.pinned (OpenSpec.ofChange fnExactInkOfFileSpec)

/-- ITS FALSE NEIGHBOUR: 'it returns false'. Refute it at one input. -/
def fnExactInkOfFileWrong : ChangeSpec := { name := "fnExactInkOfFile", fn := fun _ => fun
  | [d] => { results := [.lit (.bool false)], args := [d] }
  | _ => none }
def FnExactInkOfFileWrongFalsely : Prop := fnExactInkOfFileRow.holds Try.pinned (OpenSpec.ofChange fnExactInkOfFileWrong)

/- THE SECOND FORM. 'bulk': how many values and letters a reading holds, each counted each time it is reached (what is shared counts as often as it is met; a slice's spare places count too). A statement '..UptoSaid' is the law's where the arguments, and the package variables that the reading takes, are together of bulk at most 1048576: NARROWER than '..Said'. Prove '..Said' where nothing that the law and all that it calls make is longer than what came in: it says more and counts as full. Else prove '..UptoSaid'. A law counts once. -/
mutual
def uptoBulk {H : Type} : DataW H → Nat
  | .lit (.string bytes) => bytes.length + 1
  | .lit _ => 1
  | .nil => 1
  | .ptr d => uptoBulk d + 1
  | .slice elems spare => uptoBulkAll elems + uptoBulkAll spare + 1
  | .agg parts => uptoBulkAll parts + 1
  | .iface _ d => uptoBulk d + 1
  | .map entries => uptoBulkEntries entries + 1
  | .held _ => 1
def uptoBulkAll {H : Type} : List (DataW H) → Nat
  | [] => 0
  | d :: r => uptoBulk d + uptoBulkAll r
def uptoBulkEntries {H : Type} : List (Lit × DataW H) → Nat
  | [] => 0
  | x :: r => uptoBulkEntry x + uptoBulkEntries r
def uptoBulkEntry {H : Type} : Lit × DataW H → Nat
  | (.string bytes, d) => bytes.length + uptoBulk d + 1
  | (_, d) => uptoBulk d + 1
 end
def uptoSmall : (H : Type) → List (DataW H) → Bool := fun _ ds => decide (uptoBulkAll ds ≤ 1048576)
def OpenSpec.upto (s : _root_.Go.ChangeSpec) : _root_.Go.OpenSpec := { _root_.Go.OpenSpec.ofChange s with cond := some uptoSmall }

/-- 'laws.FnExactFileOfInk', WHERE WHAT IT READS IS OF BULK AT MOST 1048576: true; the input reads as it did. -/
def fnExactFileOfInkUptoRow : OpenClaim := { program := "ytigingjpdlfanaa", sum := "678f95fc4208b15398196a83fdc0d5f2f26e22a9979f81aa5dd617a07f5d822f", func := "loop.example/g00918/laws.FnExactFileOfInk", spec := "fnExactFileOfInk", apart := false, narrowed := true }
def FnExactFileOfInkUptoSaid : Prop := fnExactFileOfInkUptoRow.holds Try.pinned (OpenSpec.upto fnExactFileOfInkSpec)

/-- 'laws.FnExactSameFile', WHERE WHAT IT READS IS OF BULK AT MOST 1048576: true; the input reads as it did. -/
def fnExactSameFileUptoRow : OpenClaim := { program := "ytigingjpdlfanaa", sum := "678f95fc4208b15398196a83fdc0d5f2f26e22a9979f81aa5dd617a07f5d822f", func := "loop.example/g00918/laws.FnExactSameFile", spec := "fnExactSameFile", unfollowed := true, recurses := true, apart := false, narrowed := true }
def FnExactSameFileUptoSaid : Prop := fnExactSameFileUptoRow.holds Try.pinned (OpenSpec.upto fnExactSameFileSpec)

/-- 'laws.FnExactValidFile', WHERE WHAT IT READS IS OF BULK AT MOST 1048576: true; the input reads as it did. -/
def fnExactValidFileUptoRow : OpenClaim := { program := "ytigingjpdlfanaa", sum := "678f95fc4208b15398196a83fdc0d5f2f26e22a9979f81aa5dd617a07f5d822f", func := "loop.example/g00918/laws.FnExactValidFile", spec := "fnExactValidFile", unfollowed := true, recurses := true, apart := false, narrowed := true }
def FnExactValidFileUptoSaid : Prop := fnExactValidFileUptoRow.holds Try.pinned (OpenSpec.upto fnExactValidFileSpec)

/-- 'laws.FnExactChannelNamed', WHERE WHAT IT READS IS OF BULK AT MOST 1048576: true; the input reads as it did. -/
def fnExactChannelNamedUptoRow : OpenClaim := { program := "ytigingjpdlfanaa", sum := "678f95fc4208b15398196a83fdc0d5f2f26e22a9979f81aa5dd617a07f5d822f", func := "loop.example/g00918/laws.FnExactChannelNamed", spec := "fnExactChannelNamed", unfollowed := true, recurses := true, apart := false, narrowed := true }
def FnExactChannelNamedUptoSaid : Prop := fnExactChannelNamedUptoRow.holds Try.pinned (OpenSpec.upto fnExactChannelNamedSpec)

/-- 'laws.FnExactColumnOf', WHERE WHAT IT READS IS OF BULK AT MOST 1048576: true; the input reads as it did. -/
def fnExactColumnOfUptoRow : OpenClaim := { program := "ytigingjpdlfanaa", sum := "678f95fc4208b15398196a83fdc0d5f2f26e22a9979f81aa5dd617a07f5d822f", func := "loop.example/g00918/laws.FnExactColumnOf", spec := "fnExactColumnOf", unfollowed := true, recurses := true, apart := false, narrowed := true }
def FnExactColumnOfUptoSaid : Prop := fnExactColumnOfUptoRow.holds Try.pinned (OpenSpec.upto fnExactColumnOfSpec)

/-- 'laws.FnExactNotesOf', WHERE WHAT IT READS IS OF BULK AT MOST 1048576: true; the input reads as it did. -/
def fnExactNotesOfUptoRow : OpenClaim := { program := "ytigingjpdlfanaa", sum := "678f95fc4208b15398196a83fdc0d5f2f26e22a9979f81aa5dd617a07f5d822f", func := "loop.example/g00918/laws.FnExactNotesOf", spec := "fnExactNotesOf", unfollowed := true, recurses := true, apart := false, narrowed := true }
def FnExactNotesOfUptoSaid : Prop := fnExactNotesOfUptoRow.holds Try.pinned (OpenSpec.upto fnExactNotesOfSpec)

/-- 'laws.FnExactAddNote', WHERE WHAT IT READS IS OF BULK AT MOST 1048576: true; the input reads as it did. -/
def fnExactAddNoteUptoRow : OpenClaim := { program := "ytigingjpdlfanaa", sum := "678f95fc4208b15398196a83fdc0d5f2f26e22a9979f81aa5dd617a07f5d822f", func := "loop.example/g00918/laws.FnExactAddNote", spec := "fnExactAddNote", unfollowed := true, recurses := true, apart := false, narrowed := true }
def FnExactAddNoteUptoSaid : Prop := fnExactAddNoteUptoRow.holds Try.pinned (OpenSpec.upto fnExactAddNoteSpec)

/-- 'laws.FnExactInkOfFile', WHERE WHAT IT READS IS OF BULK AT MOST 1048576: true; the input reads as it did. -/
def fnExactInkOfFileUptoRow : OpenClaim := { program := "ytigingjpdlfanaa", sum := "678f95fc4208b15398196a83fdc0d5f2f26e22a9979f81aa5dd617a07f5d822f", func := "loop.example/g00918/laws.FnExactInkOfFile", spec := "fnExactInkOfFile", unfollowed := true, recurses := true, apart := false, narrowed := true }
def FnExactInkOfFileUptoSaid : Prop := fnExactInkOfFileUptoRow.holds Try.pinned (OpenSpec.upto fnExactInkOfFileSpec)

end Rows
end Go.Proofs.Ytigingjpdlfanaa
