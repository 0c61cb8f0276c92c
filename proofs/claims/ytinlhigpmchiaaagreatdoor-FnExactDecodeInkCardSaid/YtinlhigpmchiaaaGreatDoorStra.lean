/-
  Rows of bytes that a call owns: their text. The decimal digits of a number, in plain words. Bytes of one's own as elements; the decimal text that the reference makes. A text cut at a byte, in plain words. Slices of texts: marked, held, compared; the text of a mark. Channels and notes in memory; marked with numbers and texts in order. The laws' comparison of nested slices, channels, notes. Channels and notes that hold their marks.
-/
import Derived.Test.YtinlhigpmchiaaaGreatDoorBase
import Derived.Maps.AppendAt
import Derived.Laws.BitsLemmas
import Derived.Lib.ItoaNum
import Derived.Test.YtinlhigpmchiaaaGreatDoorKda
import Derived.Lib.Split
namespace Go.Proofs.YtinlhigpmchiaaaGreatDoor
set_option linter.unusedSimpArgs false
set_option linter.unusedVariables false
set_option maxRecDepth 20000
open Go.RowKit

/-- the cells of bytes -/
def byteRow (l : List UInt8) : List Value := l.map fun b => .int .u8 (b.toNat : Int)
theorem byteRow_append (l m : List UInt8) : byteRow (l ++ m) = byteRow l ++ byteRow m := by simp [byteRow]
theorem byteRow_length (l : List UInt8) : (byteRow l).length = l.length := by simp [byteRow]

/-- string(out), where the call owns out -/
theorem string_of_row {w : World} {base e n : Nat} {v : Value} {l : List UInt8} {src dst : TypeId} (h : w.ownsRow base e 1 v n (byteRow l)) (hs : Tryz.prog.underlying src = some (.slice e)) (he : Tryz.prog.underlying e = some (.int .u8)) (hd : Tryz.prog.underlying dst = some .string) :
    (convert src dst v).run Tryz.prog w = .ok (.string ⟨l.toArray⟩) w := by
  have hn : n = l.length := by have := h.1; rw [byteRow_length] at this; omega
  subst hn
  rcases h.2 with ⟨rfl, h0⟩ | ⟨g, cap, cur, rfl, hb, hg, _⟩
  · have : l = [] := List.eq_nil_of_length_eq_zero h0
    subst this
    rw [run_convert_bytes_string w src dst e none 0 0 hs he hd]
    simp [Conv.bytesToString]
    rfl
  · refine run_convert_bytes_back w src dst e _ cap l hs he hd fun j hj => ?_
    exact h.cells (g := g) rfl j _ (by simp [byteRow, List.getElem?_eq_getElem hj])

theorem row_push {w : World} {base e : Nat} {v : Value} {l : List UInt8} {X : Int} (b : UInt8) (hx : X = (b.toNat : Int)) (h : w.ownsRow base e 1 v (l.length + 1) (byteRow l ++ [.int .u8 X])) :
    w.ownsRow base e 1 v (l ++ [b]).length (byteRow (l ++ [b])) := by
  subst hx
  rw [byteRow_append]
  simpa [byteRow] using h
/-- the row is one of the call's own: what grows it leaves all else as it was -/
theorem grown_own {W w w' : World} {base e size n : Nat} {v : Value} {xs : List Value} (hB : Below base W w) (h : w.ownsRow base e size v n xs) (o : Obj) (hg : (w.alloc o).grownBy w' v.ownBlock) (hb : base ≤ w.heap.size) : Below base W w' :=
  (hB.alloc hb o).grown hg (by simp; omega) (fun k hk => (h.lt k hk).1)
theorem i64_and1 (n : Int) : bits .and .i64 n 1 = n % 2 := by
  have h1 : (BitVec.ofInt 64 1).toNat = 2 ^ 1 - 1 := by decide
  have key : (BitVec.ofInt 64 n &&& BitVec.ofInt 64 1).toNat = (n % ((2 ^ 64 : Nat) : Int)).toNat % 2 ^ 1 := by
    rw [BitVec.toNat_and, BitVec.toNat_ofInt, h1, Nat.and_two_pow_sub_one_eq_mod]
  show IntKind.i64.wrap ((BitVec.ofInt 64 n &&& BitVec.ofInt 64 1).toNat : Nat) = n % 2
  rw [key, IntKind.wrap_i64]
  omega

/-- an owned row stays what it is under a call that makes memory -/
theorem row_below {a b : World} {base e size n : Nat} {v : Value} {xs : List Value} (h : a.ownsRow base e size v n xs) (hb : Below a.heap.size a b) : b.ownsRow base e size v n xs :=
  h.kept (row := none) ⟨hb.os, hb.tape, hb.output, hb.size, fun k hk _ => hb.block k hk⟩ (by cases v.ownBlock <;> simp)
/-- the one condition of a region that takes string(out) beside calls: the row out and what it converts to -/
theorem SR.mk {W w' : World} {base e n : Nat} {v : Value} {l : List UInt8} {src dst : TypeId} (hs : Tryz.prog.underlying src = some (.slice e)) (he : Tryz.prog.underlying e = some (.int .u8)) (hd : Tryz.prog.underlying dst = some .string)
    (h : w'.ownsRow base e 1 v n (byteRow l)) (hb : Below W.heap.size W w') :
    (convert src dst v).run Tryz.prog w' = .ok (.string ⟨l.toArray⟩) w' ∧ w'.ownsRow base e 1 v n (byteRow l) ∧ Below W.heap.size W w' := ⟨string_of_row h hs he hd, h, hb⟩
theorem SR.next {W a b : World} {base e n : Nat} {v : Value} {l : List UInt8} {src dst : TypeId}
    (h : (convert src dst v).run Tryz.prog a = .ok (.string ⟨l.toArray⟩) a ∧ a.ownsRow base e 1 v n (byteRow l) ∧ Below W.heap.size W a) (hb : Below a.heap.size a b) : b.ownsRow base e 1 v n (byteRow l) ∧ Below W.heap.size W b :=
  ⟨row_below h.2.1 hb, Below.next h.2.2 hb⟩

theorem byte_info : (Tryz.prog.info? 5).map (fun i => (i.zero, i.size, i.bytes)) = some (some (.int .u8 0), 1, 1) := by kernel_rfl
end Go.Proofs.YtinlhigpmchiaaaGreatDoor
namespace Go.Proofs.YtinlhigpmchiaaaGreatDoor
set_option linter.unusedSimpArgs false
set_option linter.unusedVariables false
set_option maxRecDepth 20000
open Go.RowKit

/-- the digits, none for 0 -/
def digs (m : Nat) : List UInt8 := if h : m = 0 then [] else digs (m / 10) ++ [UInt8.ofNat (48 + m % 10)]
termination_by m
decreasing_by omega
theorem digs_zero : digs 0 = [] := by rw [digs, dif_pos rfl]
theorem digs_pos {m : Nat} (h : 0 < m) : digs m = digs (m / 10) ++ [UInt8.ofNat (48 + m % 10)] := by rw [digs, dif_neg (by omega)]
theorem digs_lib {m : Nat} (h : 0 < m) : Lib.decDigits m = digs m := by
  induction m using Nat.strongRecOn with
  | _ m ih =>
    rw [Lib.decDigits, digs_pos h]
    by_cases h10 : m < 10
    · rw [dif_pos h10, show m / 10 = 0 by omega, digs_zero, Nat.mod_eq_of_lt h10]; rfl
    · rw [dif_neg h10, ih (m / 10) (by omega) (by omega)]
theorem itoa_zero : Lib.itoa 0 = [48] := by
  have h : Lib.itoa 0 = Lib.decDigits 0 := by unfold Lib.itoa; rfl
  rw [h, Lib.decDigits, dif_pos (by omega)]; rfl
theorem itoa_nat {m : Nat} (h : 0 < m) : Lib.itoa (m : Int) = digs m := by
  unfold Lib.itoa
  rw [if_neg (by omega), show ((m : Int)).toNat = m by omega, digs_lib h]
theorem itoa_neg {m : Nat} (h : 0 < m) : Lib.itoa (-(m : Int)) = 45 :: digs m := by
  unfold Lib.itoa
  rw [if_pos (by omega), show (-(m : Int)).natAbs = m by omega, digs_lib h]
theorem digs_len : ∀ (k m : Nat), m < 10 ^ k → (digs m).length ≤ k
  | 0, m, h => by
    have e : m = 0 := by simpa using h
    subst e; rw [digs_zero]; exact Nat.le_refl _
  | k + 1, m, h => by
    rcases Nat.eq_zero_or_pos m with e | e
    · subst e; rw [digs_zero]; simp
    · rw [digs_pos e, List.length_append]
      have := digs_len k (m / 10) (by rw [Nat.pow_succ] at h; omega)
      simp; omega
theorem dig_val (m : Nat) : ((UInt8.ofNat (48 + m % 10)).toNat : Int) = 48 + ((m % 10 : Nat) : Int) := by
  have h : m % 10 < 10 := Nat.mod_lt _ (by omega)
  rw [UInt8.toNat_ofNat']
  omega
end Go.Proofs.YtinlhigpmchiaaaGreatDoor
namespace Go.Proofs.YtinlhigpmchiaaaGreatDoor
set_option linter.unusedSimpArgs false
set_option linter.unusedVariables false
set_option maxRecDepth 20000
open Go.RowKit
open Go.ChangeShapes Go.WideShapes Go.Deep Go.Joins

def bC (b : UInt8) : List Value := [.int .u8 (b.toNat : Int)]
theorem bC_len (b : UInt8) : (bC b).length = 1 := rfl
theorem rowOf_bC (l : List UInt8) : rowOf bC l = byteRow l := by
  induction l with
  | nil => rfl
  | cons b l ih => show bC b ++ rowOf bC l = _; rw [ih]; rfl
theorem elem_byte : Elem bC 5 1 1 where
  len _ := rfl
  one a u hu := by simp [bC] at hu; subst hu; rfl
  pos := by omega
  info := by
    obtain ⟨i, h1, h2, h3, h4⟩ := info_parts byte_info
    exact ⟨i, _, h1, h2, h3, h4, rfl⟩
theorem string_of_own {w : World} {base : Nat} {v : Value} {l : List UInt8} (h : Own bC 5 1 w base v l) :
    (convert 54 9 v).run Tryz.prog w = .ok (.string ⟨l.toArray⟩) w := by
  unfold Own at h
  rw [rowOf_bC] at h
  exact string_of_row h Tryz.underlying54 Tryz.underlying5 Tryz.underlying9

end Go.Proofs.YtinlhigpmchiaaaGreatDoor
namespace Go.Proofs.YtinlhigpmchiaaaGreatDoor
set_option linter.unusedSimpArgs false
set_option linter.unusedVariables false
set_option maxRecDepth 20000
open Go.RowKit

/-- the pieces between the bytes c -/
def splitL (c : UInt8) : List UInt8 → List (List UInt8)
  | [] => [[]]
  | b :: l => if b = c then [] :: splitL c l else (b :: (splitL c l).headD []) :: (splitL c l).tail
theorem splitL_ne (c : UInt8) (l : List UInt8) : splitL c l ≠ [] := by
  cases l with
  | nil => simp [splitL]
  | cons b l => unfold splitL; split <;> simp
theorem splitL_none {c : UInt8} {l : List UInt8} (h : c ∉ l) : splitL c l = [l] := by
  induction l with
  | nil => rfl
  | cons b l ih =>
    have h1 : ¬ b = c := fun e => h (by simp [e])
    have h2 := ih (fun e => h (by simp [e]))
    rw [splitL, if_neg h1, h2]; rfl
theorem splitL_hit {c : UInt8} {a b : List UInt8} (h : c ∉ a) : splitL c (a ++ c :: b) = a :: splitL c b := by
  induction a with
  | nil => rw [List.nil_append, splitL, if_pos rfl]
  | cons x a ih =>
    have h1 : ¬ x = c := fun e => h (by simp [e])
    have h2 := ih (fun e => h (by simp [e]))
    rw [List.cons_append, splitL, if_neg h1, h2]; rfl
theorem idx_one (c : UInt8) : ∀ l : List UInt8, (Lib.index l [c] = -1 ∧ c ∉ l) ∨ ∃ a b, l = a ++ c :: b ∧ c ∉ a ∧ Lib.index l [c] = (a.length : Int)
  | [] => .inl ⟨by simp [Lib.index], by simp⟩
  | x :: l => by
    by_cases h : c = x
    · subst h
      exact .inr ⟨[], l, rfl, by simp, by simp [Lib.index]⟩
    · have hp : ([c] : List UInt8).isPrefixOf (x :: l) = false := by simp [List.isPrefixOf, h]
      rcases idx_one c l with ⟨h1, h2⟩ | ⟨a, b, rfl, h2, h3⟩
      · exact .inl ⟨by rw [Lib.index, hp, h1]; rfl, by simp [h, h2]⟩
      · refine .inr ⟨x :: a, b, rfl, by simp [h, h2], ?_⟩
        have h4 : ¬ ((a.length : Int) == -1) = true := by rw [beq_iff_eq]; omega
        rw [Lib.index, hp, h3, if_neg (by simp), if_neg h4]
        simp
theorem split_lib (c : UInt8) (n : Nat) : ∀ (l : List UInt8), l.length ≤ n → Lib.split l [c] = splitL c l := by
  induction n with
  | zero =>
    intro l hn
    obtain rfl : l = [] := List.eq_nil_of_length_eq_zero (by omega)
    have h1 : Lib.index [] [c] = -1 := by simp [Lib.index]
    unfold Lib.split
    rw [Lib.count_miss h1]; rfl
  | succ n ihn =>
    intro l hn
    rcases idx_one c l with ⟨h1, h2⟩ | ⟨a, b, rfl, h2, h3⟩
    · unfold Lib.split
      rw [Lib.count_miss h1, splitL_none h2]; rfl
    · · have hb : b.length ≤ n := by simp at hn; omega
        have ih := ihn b hb
        unfold Lib.split at ih ⊢
        have hc := Lib.count_hit (s := a ++ c :: b) (sub := [c]) (by simp) h3
        have hd : (a ++ c :: b).drop (a.length + [c].length) = b := by simp
        rw [hd] at hc
        rw [hc, splitL_hit h2, Nat.add_comm, Lib.splitK]
        have h4 : ¬ (Lib.index (a ++ c :: b) [c] == -1) = true := by rw [h3, beq_iff_eq]; omega
        rw [if_neg h4, h3, Int.toNat_natCast, hd, ih]
        simp
theorem splitL_join {c : UInt8} (l : List UInt8) : ∀ p ∈ splitL c l, c ∉ p := by
  induction l with
  | nil => intro p hp; simp [splitL] at hp; subst hp; simp
  | cons b l ih =>
    intro p hp
    unfold splitL at hp
    split at hp
    · rcases List.mem_cons.1 hp with rfl | hp
      · simp
      · exact ih p hp
    · rename_i hb
      rcases List.mem_cons.1 hp with rfl | hp
      · have h1 : (splitL c l).headD [] ∈ splitL c l := by
          cases h : splitL c l with
          | nil => exact absurd h (splitL_ne c l)
          | cons x xs => simp
        have := ih _ h1
        intro hm
        rcases List.mem_cons.1 hm with e | e
        · exact hb e.symm
        · exact this e
      · exact ih p (List.mem_of_mem_tail hp)
theorem splitL_count (c : UInt8) (l : List UInt8) : (splitL c l).length ≤ l.length + 1 := by
  induction l with
  | nil => simp [splitL]
  | cons b l ih =>
    have := List.length_pos_iff.2 (splitL_ne c l)
    unfold splitL
    split
    · simp; omega
    · simp; omega
end Go.Proofs.YtinlhigpmchiaaaGreatDoor
namespace Go.Proofs.YtinlhigpmchiaaaGreatDoor
set_option linter.unusedSimpArgs false
set_option linter.unusedVariables false
set_option maxRecDepth 20000
open Go.RowKit
open Go.ChangeShapes Go.WideShapes Go.Deep Go.Joins

def bs (l : List UInt8) : ByteArray := ⟨l.toArray⟩
theorem bs_list (l : List UInt8) : (bs l).data.toList = l := by simp [bs]
theorem bs_of (s : ByteArray) : bs s.data.toList = s := rfl
theorem bs_append (a b : List UInt8) : bs a ++ bs b = bs (a ++ b) := by
  apply ByteArray.ext
  simp [bs]
theorem bs_size (l : List UInt8) : (bs l).size = l.length := by show l.toArray.size = _; simp
def sC (s : ByteArray) : List Value := [.string s]
theorem sC_len (s : ByteArray) : (sC s).length = 1 := rfl
theorem elem_str : Elem sC 9 1 16 where
  len _ := rfl
  one a u hu := by simp [sC] at hu; subst hu; rfl
  pos := by omega
  info := by
    have h : (Tryz.prog.info? 9).map (fun i => (i.zero, i.size, i.bytes)) = some (some (.string ⟨#[]⟩), 1, 16) := by kernel_rfl
    obtain ⟨i, h1, h2, h3, h4⟩ := info_parts h
    exact ⟨i, _, h1, h2, h3, h4, rfl⟩

/-- the text of the mark k -/
def markT (k : Nat) : ByteArray := bs (109 :: digs k)
def marksS (k n : Nat) : List ByteArray := (List.range n).map fun j => markT (k + j)
theorem marksS_len (k n : Nat) : (marksS k n).length = n := by simp [marksS]
theorem marksS_at (k n j : Nat) (h : j < (marksS k n).length) : (marksS k n)[j] = markT (k + j) := by simp [marksS]

end Go.Proofs.YtinlhigpmchiaaaGreatDoor
namespace Go.Proofs.YtinlhigpmchiaaaGreatDoor
set_option linter.unusedSimpArgs false
set_option linter.unusedVariables false
set_option maxRecDepth 20000
open Go.RowKit
open Go.ChangeShapes Go.WideShapes Go.Deep Go.Joins

structure Ch where
  name : ByteArray
  unit : ByteArray
  low : Int
  high : Int
def chC (c : Ch) : List Value := [.string c.name, .string c.unit, .int .i64 c.low, .int .i64 c.high]
theorem chC_len (c : Ch) : (chC c).length = 4 := rfl
structure No where
  fr : Int
  til : Int
  text : ByteArray
def noC (c : No) : List Value := [.int .i64 c.fr, .int .i64 c.til, .string c.text]
theorem noC_len (c : No) : (noC c).length = 3 := rfl
theorem Filled.set4 {α : Type} {f : α → List Value} {C : Array Value} {l : List α} {k : Nat} {u v z y : Value} (hf : ∀ a, (f a).length = 4) (h : Filled f C l k) (hk : k < l.length) (hC : l.length * 4 ≤ C.size) (e : f l[k] = [u, v, z, y]) :
    Filled f ((((C.setIfInBounds (k * 4) u).setIfInBounds (k * 4 + 1) v).setIfInBounds (k * 4 + 2) z).setIfInBounds (k * 4 + 3) y) l (k + 1) := by
  refine h.next hf hk (fun j hj => ?_) (fun i x hx => ?_)
  · rw [Array.getElem?_setIfInBounds_ne (by omega), Array.getElem?_setIfInBounds_ne (by omega), Array.getElem?_setIfInBounds_ne (by omega), Array.getElem?_setIfInBounds_ne (by omega)]
  · rw [e] at hx
    rcases i with _ | _ | _ | _ | i
    · rw [Array.getElem?_setIfInBounds_ne (by omega), Array.getElem?_setIfInBounds_ne (by omega), Array.getElem?_setIfInBounds_ne (by omega), Nat.add_zero, Array.getElem?_setIfInBounds_self_of_lt (by omega)]
      simpa using hx
    · rw [Array.getElem?_setIfInBounds_ne (by omega), Array.getElem?_setIfInBounds_ne (by omega), Array.getElem?_setIfInBounds_self_of_lt (by simp; omega)]
      simpa using hx
    · rw [Array.getElem?_setIfInBounds_ne (by omega), Array.getElem?_setIfInBounds_self_of_lt (by simp; omega)]
      simpa using hx
    · rw [Array.getElem?_setIfInBounds_self_of_lt (by simp; omega)]
      simpa using hx
    · simp at hx
def marksC (k n : Nat) : List Ch := (List.range n).map fun j => ⟨markT (k + 4 * j), markT (k + 4 * j + 1), ((k + 4 * j + 2 : Nat) : Int), ((k + 4 * j + 3 : Nat) : Int)⟩
theorem marksC_len (k n : Nat) : (marksC k n).length = n := by simp [marksC]
theorem marksC_at (k n j : Nat) (h : j < (marksC k n).length) : (marksC k n)[j] = ⟨markT (k + 4 * j), markT (k + 4 * j + 1), ((k + 4 * j + 2 : Nat) : Int), ((k + 4 * j + 3 : Nat) : Int)⟩ := by simp [marksC]
def marksN (k n : Nat) : List No := (List.range n).map fun j => ⟨((k + 3 * j : Nat) : Int), ((k + 3 * j + 1 : Nat) : Int), markT (k + 3 * j + 2)⟩
theorem marksN_len (k n : Nat) : (marksN k n).length = n := by simp [marksN]
theorem marksN_at (k n j : Nat) (h : j < (marksN k n).length) : (marksN k n)[j] = ⟨((k + 3 * j : Nat) : Int), ((k + 3 * j + 1 : Nat) : Int), markT (k + 3 * j + 2)⟩ := by simp [marksN]

end Go.Proofs.YtinlhigpmchiaaaGreatDoor
namespace Go.Proofs.YtinlhigpmchiaaaGreatDoor
set_option linter.unusedSimpArgs false
set_option linter.unusedVariables false
set_option maxRecDepth 20000
open Go.RowKit
open Go.ChangeShapes Go.WideShapes Go.Deep Go.Joins

theorem pl_at {α β : Type} {f : α → β} {S T : List α} (h : S.map f = T.map f) {k : Nat} (hk : k < S.length) (hk2 : k < T.length) : f S[k] = f T[k] := by
  have h1 : (S.map f)[k]? = (T.map f)[k]? := by rw [h]
  rw [List.getElem?_map, List.getElem?_map, List.getElem?_eq_getElem hk, List.getElem?_eq_getElem hk2] at h1
  simpa using h1
theorem pl_len {α β : Type} {f : α → β} {S T : List α} (h : S.map f = T.map f) : S.length = T.length := by
  have := congrArg List.length h
  simpa using this
theorem rowK_pl (s : Sl Int) : rowK.pl s = s.l := List.map_id _
def rowsOk (s : Sl (Sl Int)) : Prop := s.l.length ≤ 1048576 ∧ ∀ r ∈ s.l, r.l.length ≤ 1048576

end Go.Proofs.YtinlhigpmchiaaaGreatDoor
namespace Go.Proofs.YtinlhigpmchiaaaGreatDoor
set_option linter.unusedSimpArgs false
set_option linter.unusedVariables false
set_option maxRecDepth 20000
open Go.RowKit
open Go.ChangeShapes Go.WideShapes Go.Deep Go.Joins

end Go.Proofs.YtinlhigpmchiaaaGreatDoor
