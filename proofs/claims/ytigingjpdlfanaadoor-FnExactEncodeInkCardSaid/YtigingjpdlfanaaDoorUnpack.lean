/-
  Bytes as bits: program and reference write the same text.
-/
import Derived.Test.YtigingjpdlfanaaDoorBuilder
import Derived.Test.YtigingjpdlfanaaDoorBits
import Derived.Laws.BitsAllLaws
namespace Go.Proofs.YtigingjpdlfanaaDoor
set_option linter.unusedSimpArgs false
set_option linter.unusedVariables false
set_option maxRecDepth 20000
open Go.RowKit

def unpackL (l : List UInt8) : List UInt8 := l.flatMap fun x => numBits (x.toNat : Int) 8
theorem unpackL_append (l m : List UInt8) : unpackL (l ++ m) = unpackL l ++ unpackL m := by simp [unpackL]
theorem unpackL_length (l : List UInt8) : (unpackL l).length = 8 * l.length := by
  induction l with
  | nil => rfl
  | cons x l ih =>
    have e : unpackL (x :: l) = numBits (x.toNat : Int) 8 ++ unpackL l := by simp [unpackL]
    rw [e, List.length_append, numBits_length, ih]
    simp
    omega
theorem unpack_snoc (s : ByteArray) (k : Nat) (h : k < s.size) : unpackL (s.data.toList.take (k + 1)) = unpackL (s.data.toList.take k) ++ numBits (s[k].toNat : Int) 8 := by
  rw [take_snoc s k h, unpackL_append]
  congr 1
theorem u8_and1 (n : Int) (h0 : 0 ≤ n) (h1 : n < 256) : bits .and .u8 n 1 = n % 2 := by
  have e : ((n.toNat &&& 1 : Nat) : Int) = n % 2 := by
    rw [Nat.and_one_is_mod]
    omega
  rw [u8_and n 1 h0 h1 (by omega) (by omega)]
  exact e

end Go.Proofs.YtigingjpdlfanaaDoor
