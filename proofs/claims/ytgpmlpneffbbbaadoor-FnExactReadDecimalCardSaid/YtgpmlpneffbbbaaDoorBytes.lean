/-
  Rows of bytes that a call owns: their text.
-/
import Derived.Test.YtgpmlpneffbbbaaDoorBase
import Derived.Maps.AppendAt
import Derived.Laws.BitsLemmas
namespace Go.Proofs.YtgpmlpneffbbbaaDoor
set_option linter.unusedSimpArgs false
set_option linter.unusedVariables false
set_option maxRecDepth 20000
open Go.RowKit

/-- the cells of bytes -/
def byteRow (l : List UInt8) : List Value := l.map fun b => .int .u8 (b.toNat : Int)
theorem byteRow_append (l m : List UInt8) : byteRow (l ++ m) = byteRow l ++ byteRow m := by simp [byteRow]
theorem byteRow_length (l : List UInt8) : (byteRow l).length = l.length := by simp [byteRow]

/-- string(out), where the call owns out -/
theorem string_of_row {w : World} {base e n : Nat} {v : Value} {l : List UInt8} {src dst : TypeId} (h : w.ownsRow base e 1 v n (byteRow l)) (hs : Tryd.prog.underlying src = some (.slice e)) (he : Tryd.prog.underlying e = some (.int .u8)) (hd : Tryd.prog.underlying dst = some .string) :
    (convert src dst v).run Tryd.prog w = .ok (.string ⟨l.toArray⟩) w := by
  have hn : n = l.length := by have := h.1; rw [byteRow_length] at this; omega
  subst hn
  rcases h.2 with ⟨rfl, h0⟩ | ⟨g, cap, cur, rfl, hb, hg, _⟩
  · have : l = [] := List.eq_nil_of_length_eq_zero h0
    subst this
    rw [run_convert_bytes_string w src dst e none 0 0 hs he hd]
    simp [Conv.bytesToString]
    rfl
  · refine run_convert_bytes_back w src dst e _ cap l hs he hd fun j hj => ?_
    exact h.cells (g := g) rfl j _ (by simp [byteRow, List.getElem?_eq_getElem hj])

theorem row_push {w : World} {base e : Nat} {v : Value} {l : List UInt8} {X : Int} (b : UInt8) (hx : X = (b.toNat : Int)) (h : w.ownsRow base e 1 v (l.length + 1) (byteRow l ++ [.int .u8 X])) :
    w.ownsRow base e 1 v (l ++ [b]).length (byteRow (l ++ [b])) := by
  subst hx
  rw [byteRow_append]
  simpa [byteRow] using h
/-- the row is one of the call's own: what grows it leaves all else as it was -/
theorem grown_own {W w w' : World} {base e size n : Nat} {v : Value} {xs : List Value} (hB : Below base W w) (h : w.ownsRow base e size v n xs) (o : Obj) (hg : (w.alloc o).grownBy w' v.ownBlock) (hb : base ≤ w.heap.size) : Below base W w' :=
  (hB.alloc hb o).grown hg (by simp; omega) (fun k hk => (h.lt k hk).1)
theorem i64_and1 (n : Int) : bits .and .i64 n 1 = n % 2 := by
  have h1 : (BitVec.ofInt 64 1).toNat = 2 ^ 1 - 1 := by decide
  have key : (BitVec.ofInt 64 n &&& BitVec.ofInt 64 1).toNat = (n % ((2 ^ 64 : Nat) : Int)).toNat % 2 ^ 1 := by
    rw [BitVec.toNat_and, BitVec.toNat_ofInt, h1, Nat.and_two_pow_sub_one_eq_mod]
  show IntKind.i64.wrap ((BitVec.ofInt 64 n &&& BitVec.ofInt 64 1).toNat : Nat) = n % 2
  rw [key, IntKind.wrap_i64]
  omega

/-- an owned row stays what it is under a call that makes memory -/
theorem row_below {a b : World} {base e size n : Nat} {v : Value} {xs : List Value} (h : a.ownsRow base e size v n xs) (hb : Below a.heap.size a b) : b.ownsRow base e size v n xs :=
  h.kept (row := none) ⟨hb.os, hb.tape, hb.output, hb.size, fun k hk _ => hb.block k hk⟩ (by cases v.ownBlock <;> simp)
/-- the one condition of a region that takes string(out) beside calls: the row out and what it converts to -/
theorem SR.mk {W w' : World} {base e n : Nat} {v : Value} {l : List UInt8} {src dst : TypeId} (hs : Tryd.prog.underlying src = some (.slice e)) (he : Tryd.prog.underlying e = some (.int .u8)) (hd : Tryd.prog.underlying dst = some .string)
    (h : w'.ownsRow base e 1 v n (byteRow l)) (hb : Below W.heap.size W w') :
    (convert src dst v).run Tryd.prog w' = .ok (.string ⟨l.toArray⟩) w' ∧ w'.ownsRow base e 1 v n (byteRow l) ∧ Below W.heap.size W w' := ⟨string_of_row h hs he hd, h, hb⟩
theorem SR.next {W a b : World} {base e n : Nat} {v : Value} {l : List UInt8} {src dst : TypeId}
    (h : (convert src dst v).run Tryd.prog a = .ok (.string ⟨l.toArray⟩) a ∧ a.ownsRow base e 1 v n (byteRow l) ∧ Below W.heap.size W a) (hb : Below a.heap.size a b) : b.ownsRow base e 1 v n (byteRow l) ∧ Below W.heap.size W b :=
  ⟨row_below h.2.1 hb, Below.next h.2.2 hb⟩

theorem byte_info : (Tryd.prog.info? 5).map (fun i => (i.zero, i.size, i.bytes)) = some (some (.int .u8 0), 1, 1) := by kernel_rfl
end Go.Proofs.YtgpmlpneffbbbaaDoor
