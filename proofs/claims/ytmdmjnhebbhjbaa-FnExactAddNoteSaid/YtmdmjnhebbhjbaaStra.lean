/-
  Rows of bytes that a call owns: their text. The decimal digits of a number, in plain words. Bytes of one's own as elements; the decimal text that the reference makes. A text cut at a byte, in plain words. Slices of texts: marked, held, compared; the text of a mark. Channels and notes in memory; marked with numbers and texts in order. The laws' comparison of nested slices, channels, notes. Channels and notes that hold their marks.
-/
import Derived.Test.YtmdmjnhebbhjbaaBase
import Derived.Maps.AppendAt
import Derived.Laws.BitsLemmas
import Derived.Lib.ItoaNum
import Derived.Test.YtmdmjnhebbhjbaaKda
import Derived.Lib.Split
namespace Go.Proofs.Ytmdmjnhebbhjbaa
set_option linter.unusedSimpArgs false
set_option linter.unusedVariables false
set_option maxRecDepth 20000
open Go.RowKit

/-- the cells of bytes -/
def byteRow (l : List UInt8) : List Value := l.map fun b => .int .u8 (b.toNat : Int)
theorem byteRow_append (l m : List UInt8) : byteRow (l ++ m) = byteRow l ++ byteRow m := by simp [byteRow]
theorem byteRow_length (l : List UInt8) : (byteRow l).length = l.length := by simp [byteRow]

/-- string(out), where the call owns out -/
theorem string_of_row {w : World} {base e n : Nat} {v : Value} {l : List UInt8} {src dst : TypeId} (h : w.ownsRow base e 1 v n (byteRow l)) (hs : Try.prog.underlying src = some (.slice e)) (he : Try.prog.underlying e = some (.int .u8)) (hd : Try.prog.underlying dst = some .string) :
    (convert src dst v).run Try.prog w = .ok (.string ⟨l.toArray⟩) w := by
  have hn : n = l.length := by have := h.1; rw [byteRow_length] at this; omega
  subst hn
  rcases h.2 with ⟨rfl, h0⟩ | ⟨g, cap, cur, rfl, hb, hg, _⟩
  · have : l = [] := List.eq_nil_of_length_eq_zero h0
    subst this
    rw [run_convert_bytes_string w src dst e none 0 0 hs he hd]
    simp [Conv.bytesToString]
    rfl
  · refine run_convert_bytes_back w src dst e _ cap l hs he hd fun j hj => ?_
    exact h.cells (g := g) rfl j _ (by simp [byteRow, List.getElem?_eq_getElem hj])

theorem row_push {w : World} {base e : Nat} {v : Value} {l : List UInt8} {X : Int} (b : UInt8) (hx : X = (b.toNat : Int)) (h : w.ownsRow base e 1 v (l.length + 1) (byteRow l ++ [.int .u8 X])) :
    w.ownsRow base e 1 v (l ++ [b]).length (byteRow (l ++ [b])) := by
  subst hx
  rw [byteRow_append]
  simpa [byteRow] using h
/-- the row is one of the call's own: what grows it leaves all else as it was -/
theorem grown_own {W w w' : World} {base e size n : Nat} {v : Value} {xs : List Value} (hB : Below base W w) (h : w.ownsRow base e size v n xs) (o : Obj) (hg : (w.alloc o).grownBy w' v.ownBlock) (hb : base ≤ w.heap.size) : Below base W w' :=
  (hB.alloc hb o).grown hg (by simp; omega) (fun k hk => (h.lt k hk).1)
theorem i64_and1 (n : Int) : bits .and .i64 n 1 = n % 2 := by
  have h1 : (BitVec.ofInt 64 1).toNat = 2 ^ 1 - 1 := by decide
  have key : (BitVec.ofInt 64 n &&& BitVec.ofInt 64 1).toNat = (n % ((2 ^ 64 : Nat) : Int)).toNat % 2 ^ 1 := by
    rw [BitVec.toNat_and, BitVec.toNat_ofInt, h1, Nat.and_two_pow_sub_one_eq_mod]
  show IntKind.i64.wrap ((BitVec.ofInt 64 n &&& BitVec.ofInt 64 1).toNat : Nat) = n % 2
  rw [key, IntKind.wrap_i64]
  omega

/-- an owned row stays what it is under a call that makes memory -/
theorem row_below {a b : World} {base e size n : Nat} {v : Value} {xs : List Value} (h : a.ownsRow base e size v n xs) (hb : Below a.heap.size a b) : b.ownsRow base e size v n xs :=
  h.kept (row := none) ⟨hb.os, hb.tape, hb.output, hb.size, fun k hk _ => hb.block k hk⟩ (by cases v.ownBlock <;> simp)
/-- the one condition of a region that takes string(out) beside calls: the row out and what it converts to -/
theorem SR.mk {W w' : World} {base e n : Nat} {v : Value} {l : List UInt8} {src dst : TypeId} (hs : Try.prog.underlying src = some (.slice e)) (he : Try.prog.underlying e = some (.int .u8)) (hd : Try.prog.underlying dst = some .string)
    (h : w'.ownsRow base e 1 v n (byteRow l)) (hb : Below W.heap.size W w') :
    (convert src dst v).run Try.prog w' = .ok (.string ⟨l.toArray⟩) w' ∧ w'.ownsRow base e 1 v n (byteRow l) ∧ Below W.heap.size W w' := ⟨string_of_row h hs he hd, h, hb⟩
theorem SR.next {W a b : World} {base e n : Nat} {v : Value} {l : List UInt8} {src dst : TypeId}
    (h : (convert src dst v).run Try.prog a = .ok (.string ⟨l.toArray⟩) a ∧ a.ownsRow base e 1 v n (byteRow l) ∧ Below W.heap.size W a) (hb : Below a.heap.size a b) : b.ownsRow base e 1 v n (byteRow l) ∧ Below W.heap.size W b :=
  ⟨row_below h.2.1 hb, Below.next h.2.2 hb⟩

theorem byte_info : (Try.prog.info? 5).map (fun i => (i.zero, i.size, i.bytes)) = some (some (.int .u8 0), 1, 1) := by kernel_rfl
end Go.Proofs.Ytmdmjnhebbhjbaa
namespace Go.Proofs.Ytmdmjnhebbhjbaa
set_option linter.unusedSimpArgs false
set_option linter.unusedVariables false
set_option maxRecDepth 20000
open Go.RowKit

/-- the digits, none for 0 -/
def digs (m : Nat) : List UInt8 := if h : m = 0 then [] else digs (m / 10) ++ [UInt8.ofNat (48 + m % 10)]
termination_by m
decreasing_by omega
theorem digs_zero : digs 0 = [] := by rw [digs, dif_pos rfl]
theorem digs_pos {m : Nat} (h : 0 < m) : digs m = digs (m / 10) ++ [UInt8.ofNat (48 + m % 10)] := by rw [digs, dif_neg (by omega)]
theorem digs_lib {m : Nat} (h : 0 < m) : Lib.decDigits m = digs m := by
  induction m using Nat.strongRecOn with
  | _ m ih =>
    rw [Lib.decDigits, digs_pos h]
    by_cases h10 : m < 10
    · rw [dif_pos h10, show m / 10 = 0 by omega, digs_zero, Nat.mod_eq_of_lt h10]; rfl
    · rw [dif_neg h10, ih (m / 10) (by omega) (by omega)]
theorem itoa_zero : Lib.itoa 0 = [48] := by
  have h : Lib.itoa 0 = Lib.decDigits 0 := by unfold Lib.itoa; rfl
  rw [h, Lib.decDigits, dif_pos (by omega)]; rfl
theorem itoa_nat {m : Nat} (h : 0 < m) : Lib.itoa (m : Int) = digs m := by
  unfold Lib.itoa
  rw [if_neg (by omega), show ((m : Int)).toNat = m by omega, digs_lib h]
theorem itoa_neg {m : Nat} (h : 0 < m) : Lib.itoa (-(m : Int)) = 45 :: digs m := by
  unfold Lib.itoa
  rw [if_pos (by omega), show (-(m : Int)).natAbs = m by omega, digs_lib h]
theorem digs_len : ∀ (k m : Nat), m < 10 ^ k → (digs m).length ≤ k
  | 0, m, h => by
    have e : m = 0 := by simpa using h
    subst e; rw [digs_zero]; exact Nat.le_refl _
  | k + 1, m, h => by
    rcases Nat.eq_zero_or_pos m with e | e
    · subst e; rw [digs_zero]; simp
    · rw [digs_pos e, List.length_append]
      have := digs_len k (m / 10) (by rw [Nat.pow_succ] at h; omega)
      simp; omega
theorem dig_val (m : Nat) : ((UInt8.ofNat (48 + m % 10)).toNat : Int) = 48 + ((m % 10 : Nat) : Int) := by
  have h : m % 10 < 10 := Nat.mod_lt _ (by omega)
  rw [UInt8.toNat_ofNat']
  omega
end Go.Proofs.Ytmdmjnhebbhjbaa
namespace Go.Proofs.Ytmdmjnhebbhjbaa
set_option linter.unusedSimpArgs false
set_option linter.unusedVariables false
set_option maxRecDepth 20000
open Go.RowKit
open Go.ChangeShapes Go.WideShapes Go.Deep Go.Joins

def bC (b : UInt8) : List Value := [.int .u8 (b.toNat : Int)]
theorem bC_len (b : UInt8) : (bC b).length = 1 := rfl
theorem rowOf_bC (l : List UInt8) : rowOf bC l = byteRow l := by
  induction l with
  | nil => rfl
  | cons b l ih => show bC b ++ rowOf bC l = _; rw [ih]; rfl
theorem elem_byte : Elem bC 5 1 1 where
  len _ := rfl
  one a u hu := by simp [bC] at hu; subst hu; rfl
  pos := by omega
  info := by
    obtain ⟨i, h1, h2, h3, h4⟩ := info_parts byte_info
    exact ⟨i, _, h1, h2, h3, h4, rfl⟩
theorem string_of_own {w : World} {base : Nat} {v : Value} {l : List UInt8} (h : Own bC 5 1 w base v l) :
    (convert 87 9 v).run Try.prog w = .ok (.string ⟨l.toArray⟩) w := by
  unfold Own at h
  rw [rowOf_bC] at h
  exact string_of_row h Try.underlying87 Try.underlying5 Try.underlying9

end Go.Proofs.Ytmdmjnhebbhjbaa
namespace Go.Proofs.Ytmdmjnhebbhjbaa
set_option linter.unusedSimpArgs false
set_option linter.unusedVariables false
set_option maxRecDepth 20000
open Go.RowKit

/-- the pieces between the bytes c -/
def splitL (c : UInt8) : List UInt8 → List (List UInt8)
  | [] => [[]]
  | b :: l => if b = c then [] :: splitL c l else (b :: (splitL c l).headD []) :: (splitL c l).tail
theorem splitL_ne (c : UInt8) (l : List UInt8) : splitL c l ≠ [] := by
  cases l with
  | nil => simp [splitL]
  | cons b l => unfold splitL; split <;> simp
theorem splitL_none {c : UInt8} {l : List UInt8} (h : c ∉ l) : splitL c l = [l] := by
  induction l with
  | nil => rfl
  | cons b l ih =>
    have h1 : ¬ b = c := fun e => h (by simp [e])
    have h2 := ih (fun e => h (by simp [e]))
    rw [splitL, if_neg h1, h2]; rfl
theorem splitL_hit {c : UInt8} {a b : List UInt8} (h : c ∉ a) : splitL c (a ++ c :: b) = a :: splitL c b := by
  induction a with
  | nil => rw [List.nil_append, splitL, if_pos rfl]
  | cons x a ih =>
    have h1 : ¬ x = c := fun e => h (by simp [e])
    have h2 := ih (fun e => h (by simp [e]))
    rw [List.cons_append, splitL, if_neg h1, h2]; rfl
theorem idx_one (c : UInt8) : ∀ l : List UInt8, (Lib.index l [c] = -1 ∧ c ∉ l) ∨ ∃ a b, l = a ++ c :: b ∧ c ∉ a ∧ Lib.index l [c] = (a.length : Int)
  | [] => .inl ⟨by simp [Lib.index], by simp⟩
  | x :: l => by
    by_cases h : c = x
    · subst h
      exact .inr ⟨[], l, rfl, by simp, by simp [Lib.index]⟩
    · have hp : ([c] : List UInt8).isPrefixOf (x :: l) = false := by simp [List.isPrefixOf, h]
      rcases idx_one c l with ⟨h1, h2⟩ | ⟨a, b, rfl, h2, h3⟩
      · exact .inl ⟨by rw [Lib.index, hp, h1]; rfl, by simp [h, h2]⟩
      · refine .inr ⟨x :: a, b, rfl, by simp [h, h2], ?_⟩
        have h4 : ¬ ((a.length : Int) == -1) = true := by rw [beq_iff_eq]; omega
        rw [Lib.index, hp, h3, if_neg (by simp), if_neg h4]
        simp
theorem split_lib (c : UInt8) (n : Nat) : ∀ (l : List UInt8), l.length ≤ n → Lib.split l [c] = splitL c l := by
  induction n with
  | zero =>
    intro l hn
    obtain rfl : l = [] := List.eq_nil_of_length_eq_zero (by omega)
    have h1 : Lib.index [] [c] = -1 := by simp [Lib.index]
    unfold Lib.split
    rw [Lib.count_miss h1]; rfl
  | succ n ihn =>
    intro l hn
    rcases idx_one c l with ⟨h1, h2⟩ | ⟨a, b, rfl, h2, h3⟩
    · unfold Lib.split
      rw [Lib.count_miss h1, splitL_none h2]; rfl
    · · have hb : b.length ≤ n := by simp at hn; omega
        have ih := ihn b hb
        unfold Lib.split at ih ⊢
        have hc := Lib.count_hit (s := a ++ c :: b) (sub := [c]) (by simp) h3
        have hd : (a ++ c :: b).drop (a.length + [c].length) = b := by simp
        rw [hd] at hc
        rw [hc, splitL_hit h2, Nat.add_comm, Lib.splitK]
        have h4 : ¬ (Lib.index (a ++ c :: b) [c] == -1) = true := by rw [h3, beq_iff_eq]; omega
        rw [if_neg h4, h3, Int.toNat_natCast, hd, ih]
        simp
theorem splitL_join {c : UInt8} (l : List UInt8) : ∀ p ∈ splitL c l, c ∉ p := by
  induction l with
  | nil => intro p hp; simp [splitL] at hp; subst hp; simp
  | cons b l ih =>
    intro p hp
    unfold splitL at hp
    split at hp
    · rcases List.mem_cons.1 hp with rfl | hp
      · simp
      · exact ih p hp
    · rename_i hb
      rcases List.mem_cons.1 hp with rfl | hp
      · have h1 : (splitL c l).headD [] ∈ splitL c l := by
          cases h : splitL c l with
          | nil => exact absurd h (splitL_ne c l)
          | cons x xs => simp
        have := ih _ h1
        intro hm
        rcases List.mem_cons.1 hm with e | e
        · exact hb e.symm
        · exact this e
      · exact ih p (List.mem_of_mem_tail hp)
theorem splitL_count (c : UInt8) (l : List UInt8) : (splitL c l).length ≤ l.length + 1 := by
  induction l with
  | nil => simp [splitL]
  | cons b l ih =>
    have := List.length_pos_iff.2 (splitL_ne c l)
    unfold splitL
    split
    · simp; omega
    · simp; omega
end Go.Proofs.Ytmdmjnhebbhjbaa
namespace Go.Proofs.Ytmdmjnhebbhjbaa
set_option linter.unusedSimpArgs false
set_option linter.unusedVariables false
set_option maxRecDepth 20000
open Go.RowKit
open Go.ChangeShapes Go.WideShapes Go.Deep Go.Joins

def bs (l : List UInt8) : ByteArray := ⟨l.toArray⟩
theorem bs_list (l : List UInt8) : (bs l).data.toList = l := by simp [bs]
theorem bs_of (s : ByteArray) : bs s.data.toList = s := rfl
theorem bs_append (a b : List UInt8) : bs a ++ bs b = bs (a ++ b) := by
  apply ByteArray.ext
  simp [bs]
theorem bs_size (l : List UInt8) : (bs l).size = l.length := by show l.toArray.size = _; simp
def sC (s : ByteArray) : List Value := [.string s]
theorem sC_len (s : ByteArray) : (sC s).length = 1 := rfl
theorem elem_str : Elem sC 9 1 16 where
  len _ := rfl
  one a u hu := by simp [sC] at hu; subst hu; rfl
  pos := by omega
  info := by
    have h : (Try.prog.info? 9).map (fun i => (i.zero, i.size, i.bytes)) = some (some (.string ⟨#[]⟩), 1, 16) := by kernel_rfl
    obtain ⟨i, h1, h2, h3, h4⟩ := info_parts h
    exact ⟨i, _, h1, h2, h3, h4, rfl⟩

/-- the text of the mark k -/
def markT (k : Nat) : ByteArray := bs (109 :: digs k)
set_option maxHeartbeats 4000000 in
theorem markText_any (k : Nat) (h0 : 0 < k) (hb : k ≤ 4294967296) (w : World) : Calls Try.prog 57 #[.int .i64 (k : Int)] w fun e w' => e = .returned (.string (markT k)) ∧ Below w.heap.size w w' := by
  have hk0 : ¬ (k : Int) ≤ 0 := by omega
  go_enter Try.func57, Try.ntmps57
  go_wp2_with fail
  go_loopw [0, 3] (fun kk v wr => ∃ (m : Nat) (l : List UInt8), m ≤ k ∧ kk = .int .i64 (m : Int) ∧ v = .string (bs l) ∧ Hid (digs m ++ l = digs k) ∧ l.length ≤ 20 ∧ Below w.heap.size w wr) (fun kk _ _ => (intOf kk).toNat)
  case atStart => exact ⟨k, [], Nat.le_refl _, rfl, rfl, by rw [Hid, List.append_nil], by simp, by go_grown⟩
  case round =>
    obtain ⟨m, l, hm, rfl, rfl, hdg, hl20, hB⟩ := hrel
    have hBs := hB.size
    have hsz := bs_size l
    by_cases h1 : 0 < m
    · have hdl : (digs m).length = (digs (m / 10)).length + 1 := by rw [digs_pos h1]; simp
      have hl19 : l.length ≤ 19 := by
        have h2 := digs_len 19 k (by omega)
        have h3 := congrArg List.length hdg.out
        rw [List.length_append, hdl] at h3
        omega
      have hX := dig_val m
      have hnext : Hid (digs (m / 10) ++ (UInt8.ofNat (48 + m % 10) :: l) = digs k) := by rw [Hid, ← hdg.out, digs_pos h1, List.append_assoc]; rfl
      obtain ⟨rr, hrr⟩ : ∃ rr, m % 10 = rr := ⟨_, rfl⟩
      obtain ⟨qq, hqq⟩ : ∃ qq, m / 10 = qq := ⟨_, rfl⟩
      have hr : ((m : Int)) % 10 = (rr : Int) := by omega
      have hq : ((m : Int)) / 10 = (qq : Int) := by omega
      rw [hrr] at hX hnext
      rw [hqq] at hnext
      have hr10 : rr < 10 := by omega
      have hqm : qq < m := by omega
      have hm0 : (0 : Int) < (m : Int) := by omega
      have hw8 : IntKind.u8.wrap (48 + (rr : Int)) = 48 + (rr : Int) := by rw [IntKind.wrap_u8]; omega
      obtain ⟨ch, hch⟩ : ∃ ch, UInt8.ofNat (48 + rr) = ch := ⟨_, rfl⟩
      rw [hch] at hX hnext
      have HE5 : Hid ((rowOf bC [ch]).toArray = #[Value.int .u8 (48 + (rr : Int))]) := by rw [Hid, ← hX]; rfl
      have hconv : (convert 87 9 (.slice (some ⟨wr.heap.size, 0, none⟩) 1 1)).run Try.prog (wr.alloc (.cells #[.int .u8 (48 + (rr : Int))] 5)) = .ok (.string (bs [ch])) (wr.alloc (.cells #[.int .u8 (48 + (rr : Int))] 5)) :=
        string_of_own (base := 0) (l := [ch]) (Own.of_bk (l := [ch]) (by rw [HE5.out]; exact Bk.new wr _ _) bC_len (by simp [maxLen]) (Nat.zero_le _))
      have hsz1 : (bs [ch]).size = 1 := rfl
      have happ := bs_append [ch] l
      clear hrr hqq hX hdl hch
      go_wp2_with fail
      go_roundw
      case rel => exact ⟨qq, ch :: l, by omega, by first | rfl | go_num, by first | rfl | rw [happ]; rfl, hnext, by simp; omega, by go_grown⟩
      case measure => (simp [intOf]; try omega)
    · obtain rfl : m = 0 := by omega
      have hEL : Hid (l = digs k) := by have := hdg.out; rw [digs_zero] at this; exact this
      have happ := bs_append [109] l
      have hsz1 : (bs [109]).size = 1 := rfl
      go_wp2_with fail
      go_ret
      exact ⟨ret_str (by unfold markT; rw [← hEL.out]; first | rfl | exact happ), hB⟩

def marksS (k n : Nat) : List ByteArray := (List.range n).map fun j => markT (k + j)
theorem marksS_len (k n : Nat) : (marksS k n).length = n := by simp [marksS]
theorem marksS_at (k n j : Nat) (h : j < (marksS k n).length) : (marksS k n)[j] = markT (k + j) := by simp [marksS]

end Go.Proofs.Ytmdmjnhebbhjbaa
namespace Go.Proofs.Ytmdmjnhebbhjbaa
set_option linter.unusedSimpArgs false
set_option linter.unusedVariables false
set_option maxRecDepth 20000
open Go.RowKit
open Go.ChangeShapes Go.WideShapes Go.Deep Go.Joins

structure Ch where
  name : ByteArray
  unit : ByteArray
  low : Int
  high : Int
def chC (c : Ch) : List Value := [.string c.name, .string c.unit, .int .i64 c.low, .int .i64 c.high]
theorem chC_len (c : Ch) : (chC c).length = 4 := rfl
structure No where
  fr : Int
  til : Int
  text : ByteArray
def noC (c : No) : List Value := [.int .i64 c.fr, .int .i64 c.til, .string c.text]
theorem noC_len (c : No) : (noC c).length = 3 := rfl
theorem ch_info : (Try.prog.info? 74).map (fun i => (i.zero, i.size, i.bytes)) = some (some (.agg #[.string ⟨#[]⟩, .string ⟨#[]⟩, .int .i64 0, .int .i64 0]), 4, 48) := by kernel_rfl
theorem no_info : (Try.prog.info? 39).map (fun i => (i.zero, i.size, i.bytes)) = some (some (.agg #[.int .i64 0, .int .i64 0, .string ⟨#[]⟩]), 3, 32) := by kernel_rfl
theorem elem_ch : Elem chC 74 4 48 where
  len _ := rfl
  one a u hu := by simp [chC] at hu; rcases hu with rfl | rfl | rfl | rfl <;> rfl
  pos := by omega
  info := by
    obtain ⟨i, h1, h2, h3, h4⟩ := info_parts ch_info
    exact ⟨i, _, h1, h2, h3, h4, rfl⟩
theorem elem_no : Elem noC 39 3 32 where
  len _ := rfl
  one a u hu := by simp [noC] at hu; rcases hu with rfl | rfl | rfl <;> rfl
  pos := by omega
  info := by
    obtain ⟨i, h1, h2, h3, h4⟩ := info_parts no_info
    exact ⟨i, _, h1, h2, h3, h4, rfl⟩
theorem Filled.set4 {α : Type} {f : α → List Value} {C : Array Value} {l : List α} {k : Nat} {u v z y : Value} (hf : ∀ a, (f a).length = 4) (h : Filled f C l k) (hk : k < l.length) (hC : l.length * 4 ≤ C.size) (e : f l[k] = [u, v, z, y]) :
    Filled f ((((C.setIfInBounds (k * 4) u).setIfInBounds (k * 4 + 1) v).setIfInBounds (k * 4 + 2) z).setIfInBounds (k * 4 + 3) y) l (k + 1) := by
  refine h.next hf hk (fun j hj => ?_) (fun i x hx => ?_)
  · rw [Array.getElem?_setIfInBounds_ne (by omega), Array.getElem?_setIfInBounds_ne (by omega), Array.getElem?_setIfInBounds_ne (by omega), Array.getElem?_setIfInBounds_ne (by omega)]
  · rw [e] at hx
    rcases i with _ | _ | _ | _ | i
    · rw [Array.getElem?_setIfInBounds_ne (by omega), Array.getElem?_setIfInBounds_ne (by omega), Array.getElem?_setIfInBounds_ne (by omega), Nat.add_zero, Array.getElem?_setIfInBounds_self_of_lt (by omega)]
      simpa using hx
    · rw [Array.getElem?_setIfInBounds_ne (by omega), Array.getElem?_setIfInBounds_ne (by omega), Array.getElem?_setIfInBounds_self_of_lt (by simp; omega)]
      simpa using hx
    · rw [Array.getElem?_setIfInBounds_ne (by omega), Array.getElem?_setIfInBounds_self_of_lt (by simp; omega)]
      simpa using hx
    · rw [Array.getElem?_setIfInBounds_self_of_lt (by simp; omega)]
      simpa using hx
    · simp at hx
theorem markText_z {z : Int} {k : Nat} (hz : z = (k : Int)) (h0 : 0 < k) (hb : k ≤ 4294967296) (w : World) : Calls Try.prog 57 #[.int .i64 z] w fun e w' => e = .returned (.string (markT k)) ∧ Below w.heap.size w w' := by
  rw [hz]; exact markText_any k h0 hb w
def marksC (k n : Nat) : List Ch := (List.range n).map fun j => ⟨markT (k + 4 * j), markT (k + 4 * j + 1), ((k + 4 * j + 2 : Nat) : Int), ((k + 4 * j + 3 : Nat) : Int)⟩
theorem marksC_len (k n : Nat) : (marksC k n).length = n := by simp [marksC]
theorem marksC_at (k n j : Nat) (h : j < (marksC k n).length) : (marksC k n)[j] = ⟨markT (k + 4 * j), markT (k + 4 * j + 1), ((k + 4 * j + 2 : Nat) : Int), ((k + 4 * j + 3 : Nat) : Int)⟩ := by simp [marksC]
def marksN (k n : Nat) : List No := (List.range n).map fun j => ⟨((k + 3 * j : Nat) : Int), ((k + 3 * j + 1 : Nat) : Int), markT (k + 3 * j + 2)⟩
theorem marksN_len (k n : Nat) : (marksN k n).length = n := by simp [marksN]
theorem marksN_at (k n j : Nat) (h : j < (marksN k n).length) : (marksN k n)[j] = ⟨((k + 3 * j : Nat) : Int), ((k + 3 * j + 1 : Nat) : Int), markT (k + 3 * j + 2)⟩ := by simp [marksN]

set_option maxHeartbeats 4000000 in
theorem markChannelS_any (base : Nat) (v : Value) (l : List Ch) (n k : Nat) (w : World) (h : Own chC 74 4 w base v l) (hl : l.length = n) (hn : n ≤ 1048576) (hk0 : 0 < k) (hk : k ≤ 1073741824) :
    Calls Try.prog 30 #[v, .int .i64 (k : Int)] w fun e w' => e = .returned (.int .i64 ((k + 4 * n : Nat) : Int)) ∧ Own chC 74 4 w' base v (marksC k n) ∧ w.grownBy w' v.ownBlock := by
  rcases h.cases with ⟨rfl, rfl⟩ | ⟨g, cap, C, rfl, hb, hbk, hc, hm, hs⟩
  · obtain rfl : n = 0 := by rw [← hl]; rfl
    go_enter Try.func30, Try.ntmps30
    go_wp2_with fail
    refine wp_loop_rounds 1 ?_
    rw [rounds_succ]
    go_wp2_with fail
    go_ret
    exact ⟨rfl, Own.nil _ _ _ _ _, grownBy_refl _ _⟩
  · rw [hl] at hc ⊢
    have HBK := Lib.hid hbk
    have HS := Lib.hid hs
    clear h hl hbk hs
    go_enter Try.func30, Try.ntmps30
    go_wp2_with fail
    go_loopw [1, 5] (fun kk i wr => ∃ (j q : Nat) (C' : Array Value), j ≤ n ∧ i = .int .i64 (j : Int) ∧ kk = .int .i64 (q : Int) ∧ q ≤ k + 4 * j ∧ 0 < q ∧ Hid (k + 4 * j = q) ∧ Hid (C'.size = cap * 4) ∧ Hid (Filled chC C' (marksC k n) j) ∧ Hid (Bk wr g 74 C') ∧ Hid (w.grownBy wr (some g))) (fun _ i _ => n - (intOf i).toNat)
    case atStart => exact ⟨0, k, C, by omega, rfl, rfl, by omega, hk0, rfl, HS.out, Filled.zero _ _ _, HBK.out, grownBy_refl _ _⟩
    case round =>
      obtain ⟨j, q, C', hj, rfl, rfl, hqb, hq0, hq, hC, hfill, HBK1, hG⟩ := hrel
      by_cases hlt : j < n
      · have hjc : j * 4 + 3 < C'.size := by have := hC.out; omega
        have hmj : j < (marksC k n).length := by rw [marksC_len]; exact hlt
        have hgl0 := HBK1.out.lt
        have hfill2 : Hid (Filled chC ((((C'.setIfInBounds (j * 4) (.string (markT q))).setIfInBounds (j * 4 + 1) (.string (markT (q + 1)))).setIfInBounds (j * 4 + 2) (.int .i64 ((q : Int) + 1 + 1))).setIfInBounds (j * 4 + 3) (.int .i64 ((q : Int) + 1 + 1 + 1))) (marksC k n) (j + 1)) :=
          hfill.out.set4 chC_len hmj (by rw [marksC_len]; have := hC.out; omega) (by
            rw [marksC_at, hq.out]
            have e1 : ((q + 2 : Nat) : Int) = (q : Int) + 1 + 1 := by omega
            have e2 : ((q + 3 : Nat) : Int) = (q : Int) + 1 + 1 + 1 := by omega
            simp only [chC, e1, e2])
        go_wp2_with fail
        refine (markText_any q hq0 (by omega) _).mono ?_
        rintro e w2 ⟨rfl, hb2⟩
        have hbk2 := HBK1.out.next hb2
        have hgl := hbk2.lt
        have d1 := hbk2.cell (j * 4)
        rw [Array.getElem?_eq_getElem (by omega)] at d1
        have f1 := hbk2.frozen (j * 4)
        have HB2 := Lib.hid hb2
        have HBK2 := Lib.hid (hbk2.put (j * 4) (.string (markT q)))
        clear hb2 hbk2
        go_wp2_with fail
        obtain ⟨y, hy⟩ : ∃ y, markT q = y := ⟨_, rfl⟩
        rw [hy] at hfill2 HBK2
        try rw [hy]
        refine (markText_z (k := q + 1) (by omega) (by omega) (by omega) _).mono ?_
        rintro e w3 ⟨rfl, hb3⟩
        have hbk3 := HBK2.out.next hb3
        have hgl3 := hbk3.lt
        have hsz : (C'.setIfInBounds (j * 4) (Value.string y)).size = C'.size := by simp
        have d2 := hbk3.cell (j * 4 + 1)
        have d3 := hbk3.cell (j * 4 + 2)
        have d4 := hbk3.cell (j * 4 + 3)
        rw [Array.getElem?_eq_getElem (by omega)] at d2 d3 d4
        have f2 := hbk3.frozen (j * 4 + 1)
        have f3 := hbk3.frozen (j * 4 + 2)
        have f4 := hbk3.frozen (j * 4 + 3)
        have HB3 := Lib.hid hb3
        have HBK3 := Lib.hid hbk3
        have HG3 : Hid (w.grownBy w3 (some g)) := grownBy_trans (grownBy_trans (grownBy_trans hG.out (grownBy_of_below HB2.out _)) (grownBy_setCell w2 g (j * 4) _)) (grownBy_of_below HB3.out _)
        clear hb3 hbk3
        go_wp2_with fail
        go_roundw
        case rel => exact ⟨j + 1, q + 4, _, by omega, by go_num, by go_num, by omega, by omega, by rw [Hid, ← hq.out]; omega, by simpa [Hid] using hC.out, hfill2, ((HBK3.out.put _ _).put _ _).put _ _, grownBy_trans (grownBy_trans (grownBy_trans HG3.out (grownBy_setCell _ _ _ _)) (grownBy_setCell _ _ _ _)) (grownBy_setCell _ _ _ _)⟩
        case measure => simp [intOf]; omega
      · obtain rfl : j = n := by omega
        go_wp2_with fail
        go_ret
        have h2 := Own.of_filled (base := base) (l := marksC k j) chC_len HBK1.out hC.out (by rw [marksC_len]; exact hc) hm hb (by rw [marksC_len]; exact hfill.out)
        rw [marksC_len] at h2
        exact ⟨ret_int (by have := hq.out; omega), h2, hG.out⟩
set_option maxHeartbeats 4000000 in
theorem markNoteS_any (base : Nat) (v : Value) (l : List No) (n k : Nat) (w : World) (h : Own noC 39 3 w base v l) (hl : l.length = n) (hn : n ≤ 1048576) (hk0 : 0 < k) (hk : k ≤ 1073741824) :
    Calls Try.prog 32 #[v, .int .i64 (k : Int)] w fun e w' => e = .returned (.int .i64 ((k + 3 * n : Nat) : Int)) ∧ Own noC 39 3 w' base v (marksN k n) ∧ w.grownBy w' v.ownBlock := by
  rcases h.cases with ⟨rfl, rfl⟩ | ⟨g, cap, C, rfl, hb, hbk, hc, hm, hs⟩
  · obtain rfl : n = 0 := by rw [← hl]; rfl
    go_enter Try.func32, Try.ntmps32
    go_wp2_with fail
    refine wp_loop_rounds 1 ?_
    rw [rounds_succ]
    go_wp2_with fail
    go_ret
    exact ⟨rfl, Own.nil _ _ _ _ _, grownBy_refl _ _⟩
  · rw [hl] at hc ⊢
    have HBK := Lib.hid hbk
    have HS := Lib.hid hs
    clear h hl hbk hs
    go_enter Try.func32, Try.ntmps32
    go_wp2_with fail
    go_loopw [1, 5] (fun kk i wr => ∃ (j q : Nat) (C' : Array Value), j ≤ n ∧ i = .int .i64 (j : Int) ∧ kk = .int .i64 (q : Int) ∧ q ≤ k + 3 * j ∧ 0 < q ∧ Hid (k + 3 * j = q) ∧ Hid (C'.size = cap * 3) ∧ Hid (Filled noC C' (marksN k n) j) ∧ Hid (Bk wr g 39 C') ∧ Hid (w.grownBy wr (some g))) (fun _ i _ => n - (intOf i).toNat)
    case atStart => exact ⟨0, k, C, by omega, rfl, rfl, by omega, hk0, rfl, HS.out, Filled.zero _ _ _, HBK.out, grownBy_refl _ _⟩
    case round =>
      obtain ⟨j, q, C', hj, rfl, rfl, hqb, hq0, hq, hC, hfill, HBK1, hG⟩ := hrel
      by_cases hlt : j < n
      · have hjc : j * 3 + 2 < C'.size := by have := hC.out; omega
        have hmj : j < (marksN k n).length := by rw [marksN_len]; exact hlt
        have hgl0 := HBK1.out.lt
        have hfill2 : Hid (Filled noC (((C'.setIfInBounds (j * 3) (.int .i64 (q : Int))).setIfInBounds (j * 3 + 1) (.int .i64 ((q : Int) + 1))).setIfInBounds (j * 3 + 2) (.string (markT (q + 2)))) (marksN k n) (j + 1)) :=
          hfill.out.set3 noC_len hmj (by rw [marksN_len]; have := hC.out; omega) (by
            rw [marksN_at, hq.out]
            have e1 : ((q + 1 : Nat) : Int) = (q : Int) + 1 := by omega
            simp only [noC, e1])
        have d1 := HBK1.out.cell (j * 3)
        have d2 := HBK1.out.cell (j * 3 + 1)
        rw [Array.getElem?_eq_getElem (by omega)] at d1 d2
        have f1 := HBK1.out.frozen (j * 3)
        have f2 := HBK1.out.frozen (j * 3 + 1)
        have HBK2 := Lib.hid ((HBK1.out.put (j * 3) (.int .i64 (q : Int))).put (j * 3 + 1) (.int .i64 ((q : Int) + 1)))
        go_wp2_with fail
        refine (markText_z (k := q + 2) (by omega) (by omega) (by omega) _).mono ?_
        rintro e w3 ⟨rfl, hb3⟩
        have hbk3 := HBK2.out.next hb3
        have hgl3 := hbk3.lt
        have hsz : ((C'.setIfInBounds (j * 3) (Value.int .i64 (q : Int))).setIfInBounds (j * 3 + 1) (Value.int .i64 ((q : Int) + 1))).size = C'.size := by simp
        have d3 := hbk3.cell (j * 3 + 2)
        rw [Array.getElem?_eq_getElem (by omega)] at d3
        have f3 := hbk3.frozen (j * 3 + 2)
        have HB3 := Lib.hid hb3
        have HBK3 := Lib.hid hbk3
        have HG3 : Hid (w.grownBy w3 (some g)) := grownBy_trans (grownBy_trans (grownBy_trans hG.out (grownBy_setCell wr g (j * 3) (.int .i64 (q : Int)))) (grownBy_setCell _ g (j * 3 + 1) (.int .i64 ((q : Int) + 1)))) (grownBy_of_below HB3.out _)
        clear hb3 hbk3
        go_wp2_with fail
        go_roundw
        case rel => exact ⟨j + 1, q + 3, _, by omega, by go_num, by go_num, by omega, by omega, by rw [Hid, ← hq.out]; omega, by simpa [Hid] using hC.out, hfill2, HBK3.out.put _ _, grownBy_trans HG3.out (grownBy_setCell _ _ _ _)⟩
        case measure => simp [intOf]; omega
      · obtain rfl : j = n := by omega
        go_wp2_with fail
        go_ret
        have h2 := Own.of_filled (base := base) (l := marksN k j) noC_len HBK1.out hC.out (by rw [marksN_len]; exact hc) hm hb (by rw [marksN_len]; exact hfill.out)
        rw [marksN_len] at h2
        exact ⟨ret_int (by have := hq.out; omega), h2, hG.out⟩
end Go.Proofs.Ytmdmjnhebbhjbaa
namespace Go.Proofs.Ytmdmjnhebbhjbaa
set_option linter.unusedSimpArgs false
set_option linter.unusedVariables false
set_option maxRecDepth 20000
open Go.RowKit
open Go.ChangeShapes Go.WideShapes Go.Deep Go.Joins

theorem pl_at {α β : Type} {f : α → β} {S T : List α} (h : S.map f = T.map f) {k : Nat} (hk : k < S.length) (hk2 : k < T.length) : f S[k] = f T[k] := by
  have h1 : (S.map f)[k]? = (T.map f)[k]? := by rw [h]
  rw [List.getElem?_map, List.getElem?_map, List.getElem?_eq_getElem hk, List.getElem?_eq_getElem hk2] at h1
  simpa using h1
theorem pl_len {α β : Type} {f : α → β} {S T : List α} (h : S.map f = T.map f) : S.length = T.length := by
  have := congrArg List.length h
  simpa using this
theorem rowK_pl (s : Sl Int) : rowK.pl s = s.l := List.map_id _
theorem eqRow_same (s t : Sl Int) (w : World) (hs : rowK.rd w s) (ht : rowK.rd w t) (hp : rowK.pl s = rowK.pl t) (hn : s.l.length ≤ 1048576) :
    Calls Try.prog 71 #[.slice s.A s.l.length s.c, .slice t.A t.l.length t.c] w fun e w' => e = .returned (.bool true) ∧ Below w.heap.size w w' := by
  rw [rowK_pl, rowK_pl] at hp
  have h2 : Rd w t.A t.l.length 1 (rowOf iC t.l) := ht.1
  rw [← hp] at h2 ⊢
  exact eqInt64S_same s.A t.A s.l.length s.c t.c s.l w hs.1 h2 rfl hn
def rowsOk (s : Sl (Sl Int)) : Prop := s.l.length ≤ 1048576 ∧ ∀ r ∈ s.l, r.l.length ≤ 1048576

set_option maxHeartbeats 4000000 in
theorem eqInt64SS_same (A B : Option Addr) (n m c d : Nat) (S T : List (Sl Int)) (w : World) (ha : rowsK.rd w ⟨A, c, S⟩) (hb : rowsK.rd w ⟨B, d, T⟩) (ls : S.length = n) (lt : T.length = m) (hp : S.map rowK.pl = T.map rowK.pl) (hs : ∀ s ∈ S, s.l.length ≤ 1048576) (hn : n ≤ 1048576) :
    Calls Try.prog 66 #[.slice A n c, .slice B m d] w fun e w' => e = .returned (.bool true) ∧ Below w.heap.size w w' := by
  obtain rfl : n = m := by have := pl_len hp; omega
  have HA := Lib.hid ha
  have HD := Lib.hid hb
  have LA := Lib.hid ls
  have LD := Lib.hid lt
  have HP := Lib.hid hp
  have HS := Lib.hid hs
  clear ha hb hp ls lt hs
  go_enter Try.func66, Try.ntmps66
  go_wp2_with fail
  go_loopw [5] (fun i wr => ∃ k : Nat, k ≤ n ∧ i = .int .i64 k ∧ Below w.heap.size w wr) (fun i _ => n - (intOf i).toNat)
  case atStart => exact ⟨0, Nat.zero_le _, rfl, Below.refl _ _⟩
  case round =>
    obtain ⟨k, hk, rfl, hW⟩ := hrel
    have hWs := hW.size
    by_cases hlt : k < n
    · have ka : k < S.length := by have := LA.out; omega
      have kb : k < T.length := by have := LD.out; omega
      have ra := rowsK_ok.below HA.out hW
      have rb := rowsK_ok.below HD.out hW
      have ra1 : Rd wr A S.length 1 (rowOf hdC S) := ra.1
      have rb1 : Rd wr B T.length 1 (rowOf hdC T) := rb.1
      obtain ⟨b1, o1, rfl, l1, hc1⟩ := ra1.at hdC_len rfl ka
      obtain ⟨b2, o2, rfl, l2, hc2⟩ := rb1.at hdC_len rfl kb
      have c1 : wr.cell? ⟨b1, o1 + k, none⟩ = some (.slice S[k].A S[k].l.length S[k].c) := by simpa [Sl.val] using hc1 0 _ rfl
      have c2 : wr.cell? ⟨b2, o2 + k, none⟩ = some (.slice T[k].A T[k].l.length T[k].c) := by simpa [Sl.val] using hc2 0 _ rfl
      have P1 := Lib.hid (ra.2 _ (List.getElem_mem ka))
      have P2 := Lib.hid (rb.2 _ (List.getElem_mem kb))
      have PE := Lib.hid (pl_at HP.out ka kb)
      have hsl := Lib.hid (HS.out _ (List.getElem_mem ka))
      have hk0 : (0 : Int) ≤ (k : Int) := by omega
      have hkn : (k : Int) < (n : Int) := by omega
      clear ra rb ra1 rb1 hc1 hc2
      go_wp2_with fail
      refine wp_region_held_drew (S := (fun w' => (∀ kb ko, kb < wr.heap.size → w'.cell? ⟨kb, ko, none⟩ = wr.cell? ⟨kb, ko, none⟩) ∧ wr.heap.size ≤ w'.heap.size ∧ Below wr.heap.size wr w')) (by kernel_rfl) ?_ (fun hHeld => ?_)
      · (try dsimp only); (first | exact SB.mk hkB | exact SB.mk ((Below.refl _ _).drew) | (go_split_ands; refine SB.mk (Below.drew ?_); assumption) | (refine SB.mk ?_; go_grown; done) | (go_split_ands; refine SB.mk ?_; go_grown; done))
      first | (refine take_on (i := 0) (v := ?_) rfl (by kernel_rfl) (by kernel_rfl) (by kernel_rfl) (fun _ _ _ h => h) rfl ?_ (by assumption) ?_; rotate_left; · (intro w' hSw; (try dsimp only at hSw); go_simp; (try with_reducible rfl))) | (refine take_off (i := 0) rfl (by kernel_rfl) (by kernel_rfl) (by kernel_rfl) (fun _ _ _ h => h) rfl (by assumption) ?_)
      (try simp only [Act.put, List.setIfInBounds_toArray, List.set_cons_zero, List.set_cons_succ])
      first | (refine take_on (i := 1) (v := ?_) rfl (by kernel_rfl) (by kernel_rfl) (by kernel_rfl) (fun _ _ _ h => h) rfl ?_ (by assumption) ?_; rotate_left; · (intro w' hSw; (try dsimp only at hSw); go_simp; (try with_reducible rfl))) | (refine take_off (i := 1) rfl (by kernel_rfl) (by kernel_rfl) (by kernel_rfl) (fun _ _ _ h => h) rfl (by assumption) ?_)
      (try simp only [Act.put, List.setIfInBounds_toArray, List.set_cons_zero, List.set_cons_succ])
      first | (refine take_on (i := 2) (v := ?_) rfl (by kernel_rfl) (by kernel_rfl) (by kernel_rfl) (fun _ _ _ h => h) rfl ?_ (by assumption) ?_; rotate_left; · (intro w' hSw; (try dsimp only at hSw); go_simp; (try with_reducible rfl))) | (refine take_off (i := 2) rfl (by kernel_rfl) (by kernel_rfl) (by kernel_rfl) (fun _ _ _ h => h) rfl (by assumption) ?_)
      (try simp only [Act.put, List.setIfInBounds_toArray, List.set_cons_zero, List.set_cons_succ])
      first | (refine take_on (i := 3) (v := ?_) rfl (by kernel_rfl) (by kernel_rfl) (by kernel_rfl) (fun _ _ _ h => h) rfl ?_ (by assumption) ?_; rotate_left; · (intro w' hSw; (try dsimp only at hSw); go_simp; (try with_reducible rfl))) | (refine take_off (i := 3) rfl (by kernel_rfl) (by kernel_rfl) (by kernel_rfl) (fun _ _ _ h => h) rfl (by assumption) ?_)
      (try simp only [Act.put, List.setIfInBounds_toArray, List.set_cons_zero, List.set_cons_succ])
      first | (refine take_on (i := 4) (v := ?_) rfl (by kernel_rfl) (by kernel_rfl) (by kernel_rfl) (fun _ _ _ h => h) rfl ?_ (by assumption) ?_; rotate_left; · (intro w' hSw; (try dsimp only at hSw); go_simp; (try with_reducible rfl))) | (refine take_off (i := 4) rfl (by kernel_rfl) (by kernel_rfl) (by kernel_rfl) (fun _ _ _ h => h) rfl (by assumption) ?_)
      (try simp only [Act.put, List.setIfInBounds_toArray, List.set_cons_zero, List.set_cons_succ])
      first | (refine take_on (i := 5) (v := ?_) rfl (by kernel_rfl) (by kernel_rfl) (by kernel_rfl) (fun _ _ _ h => h) rfl ?_ (by assumption) ?_; rotate_left; · (intro w' hSw; (try dsimp only at hSw); go_simp; (try with_reducible rfl))) | (refine take_off (i := 5) rfl (by kernel_rfl) (by kernel_rfl) (by kernel_rfl) (fun _ _ _ h => h) rfl (by assumption) ?_)
      (try simp only [Act.put, List.setIfInBounds_toArray, List.set_cons_zero, List.set_cons_succ])
      first | (refine take_on (i := 6) (v := ?_) rfl (by kernel_rfl) (by kernel_rfl) (by kernel_rfl) (fun _ _ _ h => h) rfl ?_ (by assumption) ?_; rotate_left; · (intro w' hSw; (try dsimp only at hSw); go_simp; (try with_reducible rfl))) | (refine take_off (i := 6) rfl (by kernel_rfl) (by kernel_rfl) (by kernel_rfl) (fun _ _ _ h => h) rfl (by assumption) ?_)
      (try simp only [Act.put, List.setIfInBounds_toArray, List.set_cons_zero, List.set_cons_succ])
      first | (refine take_on (i := 7) (v := ?_) rfl (by kernel_rfl) (by kernel_rfl) (by kernel_rfl) (fun _ _ _ h => h) rfl ?_ (by assumption) ?_; rotate_left; · (intro w' hSw; (try dsimp only at hSw); go_simp; (try with_reducible rfl))) | (refine take_off (i := 7) rfl (by kernel_rfl) (by kernel_rfl) (by kernel_rfl) (fun _ _ _ h => h) rfl (by assumption) ?_)
      (try simp only [Act.put, List.setIfInBounds_toArray, List.set_cons_zero, List.set_cons_succ])
      refine wpAnyH_ready (rs := [8]) (by kernel_rfl) (by simp) ?_
      refine AllReadyH.cons rfl (fun K hK => ?_) AllReadyH.nil
      rw [if_pos (by rfl)]
      go_simp
      first | (go_at_call 71; (with_reducible refine (eqRow_same S[k] T[k] _ (by first | exact P1.out | exact rowK_ok.below P1.out (Below.drew (Below.refl _ _))) (by first | exact P2.out | exact rowK_ok.below P2.out (Below.drew (Below.refl _ _))) PE.out hsl.out).mono ?_); rintro e w' ⟨rfl, hb⟩; obtain ⟨_, hks, hkB⟩ := SB.next (by assumption) hb; obtain ⟨hkc, hkf⟩ := bcell hb; have hkz := hb.size; (try simp only [World.size_alloc, World.size_drew] at hkz); (first | (have hkt := Nat.lt_of_succ_le hkz) | (have hkt := Nat.lt_of_lt_of_le (by assumption) hkz) | skip); clear hb)
      refine hK.out _ _ ?_ (fun hHeld2 => ?_)
      · (try dsimp only); (first | exact SB.mk hkB | exact SB.mk ((Below.refl _ _).drew) | (go_split_ands; refine SB.mk (Below.drew ?_); assumption) | (refine SB.mk ?_; go_grown; done) | (go_split_ands; refine SB.mk ?_; go_grown; done))
      clear hK K hHeld; have hHeld := hHeld2; clear hHeld2; (try simp only [Act.put, List.setIfInBounds_toArray, List.set_cons_zero, List.set_cons_succ])
      first | (refine take_on (i := 9) (v := ?_) rfl (by kernel_rfl) (by kernel_rfl) (by kernel_rfl) (fun _ _ _ h => h) rfl ?_ (by assumption) ?_; rotate_left; · (intro w' hSw; (try dsimp only at hSw); go_simp; (try with_reducible rfl))) | (refine take_off (i := 9) rfl (by kernel_rfl) (by kernel_rfl) (by kernel_rfl) (fun _ _ _ h => h) rfl (by assumption) ?_)
      (try simp only [Act.put, List.setIfInBounds_toArray, List.set_cons_zero, List.set_cons_succ])
      refine wpAnyH_done (by kernel_rfl) ?_ _
      go_split_ands
      go_wp2_with fail
      go_roundw
      case rel => exact ⟨k + 1, by omega, by go_num, Below.next hW (by assumption)⟩
      case measure => simp [intOf]; omega
    · go_wp2_with fail
      go_ret
      exact ⟨rfl, hW⟩

theorem eqRows_same (s t : Sl (Sl Int)) (w : World) (hs : rowsK.rd w s) (ht : rowsK.rd w t) (hp : rowsK.pl s = rowsK.pl t) (hn : rowsOk s) :
    Calls Try.prog 55 #[.agg #[.slice s.A s.l.length s.c], .agg #[.slice t.A t.l.length t.c]] w fun e w' => e = .returned (.bool true) ∧ Below w.heap.size w w' := by
  have HA := Lib.hid (rowsK_ok.below hs (Below.trans (Below.alloc (Below.refl _ _) (Nat.le_refl _) (.cells #[.slice s.A s.l.length s.c] 76)) (Below.alloc (Below.refl _ _) (by simp) (.cells #[.slice t.A t.l.length t.c] 76))))
  have HD := Lib.hid (rowsK_ok.below ht (Below.trans (Below.alloc (Below.refl _ _) (Nat.le_refl _) (.cells #[.slice s.A s.l.length s.c] 76)) (Below.alloc (Below.refl _ _) (by simp) (.cells #[.slice t.A t.l.length t.c] 76))))
  have HP := Lib.hid hp
  have HN := Lib.hid hn
  clear hs ht hp hn
  go_enter Try.func55, Try.ntmps55
  go_wp2_with fail
  refine (eqInt64SS_same s.A t.A s.l.length t.l.length s.c t.c s.l t.l _ HA.out HD.out rfl rfl HP.out HN.out.2 HN.out.1).mono ?_
  rintro e w2 ⟨rfl, hb2⟩
  have hB : Below w.heap.size w w2 := Below.next (by go_grown) hb2
  clear hb2 HA HD
  go_wp2_with fail
  go_ret
  exact ⟨rfl, hB⟩

set_option maxHeartbeats 4000000 in
theorem eqRowsS_same (A B : Option Addr) (n m c d : Nat) (S T : List (Sl (Sl Int))) (w : World) (ha : stK.rd w ⟨A, c, S⟩) (hb : stK.rd w ⟨B, d, T⟩) (ls : S.length = n) (lt : T.length = m) (hp : S.map rowsK.pl = T.map rowsK.pl) (hs : ∀ s ∈ S, rowsOk s) (hn : n ≤ 1048576) :
    Calls Try.prog 28 #[.slice A n c, .slice B m d] w fun e w' => e = .returned (.bool true) ∧ Below w.heap.size w w' := by
  obtain rfl : n = m := by have := pl_len hp; omega
  have HA := Lib.hid ha
  have HD := Lib.hid hb
  have LA := Lib.hid ls
  have LD := Lib.hid lt
  have HP := Lib.hid hp
  have HS := Lib.hid hs
  clear ha hb hp ls lt hs
  go_enter Try.func28, Try.ntmps28
  go_wp2_with fail
  go_loopw [5] (fun i wr => ∃ k : Nat, k ≤ n ∧ i = .int .i64 k ∧ Below w.heap.size w wr) (fun i _ => n - (intOf i).toNat)
  case atStart => exact ⟨0, Nat.zero_le _, rfl, Below.refl _ _⟩
  case round =>
    obtain ⟨k, hk, rfl, hW⟩ := hrel
    have hWs := hW.size
    by_cases hlt : k < n
    · have ka : k < S.length := by have := LA.out; omega
      have kb : k < T.length := by have := LD.out; omega
      have ra := stK_ok.below HA.out hW
      have rb := stK_ok.below HD.out hW
      have ra1 : Rd wr A S.length 1 (rowOf hdC S) := ra.1
      have rb1 : Rd wr B T.length 1 (rowOf hdC T) := rb.1
      obtain ⟨b1, o1, rfl, l1, hc1⟩ := ra1.at hdC_len rfl ka
      obtain ⟨b2, o2, rfl, l2, hc2⟩ := rb1.at hdC_len rfl kb
      have c1 : wr.cell? ⟨b1, o1 + k, none⟩ = some (.slice S[k].A S[k].l.length S[k].c) := by simpa [Sl.val] using hc1 0 _ rfl
      have c2 : wr.cell? ⟨b2, o2 + k, none⟩ = some (.slice T[k].A T[k].l.length T[k].c) := by simpa [Sl.val] using hc2 0 _ rfl
      have P1 := Lib.hid (ra.2 _ (List.getElem_mem ka))
      have P2 := Lib.hid (rb.2 _ (List.getElem_mem kb))
      have PE := Lib.hid (pl_at HP.out ka kb)
      have hsl := Lib.hid (HS.out _ (List.getElem_mem ka))
      have hk0 : (0 : Int) ≤ (k : Int) := by omega
      have hkn : (k : Int) < (n : Int) := by omega
      clear ra rb ra1 rb1 hc1 hc2
      go_wp2_with fail
      refine wp_region_held_drew (S := (fun w' => (∀ kb ko, kb < wr.heap.size → w'.cell? ⟨kb, ko, none⟩ = wr.cell? ⟨kb, ko, none⟩) ∧ wr.heap.size ≤ w'.heap.size ∧ Below wr.heap.size wr w')) (by kernel_rfl) ?_ (fun hHeld => ?_)
      · (try dsimp only); (first | exact SB.mk hkB | exact SB.mk ((Below.refl _ _).drew) | (go_split_ands; refine SB.mk (Below.drew ?_); assumption) | (refine SB.mk ?_; go_grown; done) | (go_split_ands; refine SB.mk ?_; go_grown; done))
      first | (refine take_on (i := 0) (v := ?_) rfl (by kernel_rfl) (by kernel_rfl) (by kernel_rfl) (fun _ _ _ h => h) rfl ?_ (by assumption) ?_; rotate_left; · (intro w' hSw; (try dsimp only at hSw); go_simp; (try with_reducible rfl))) | (refine take_off (i := 0) rfl (by kernel_rfl) (by kernel_rfl) (by kernel_rfl) (fun _ _ _ h => h) rfl (by assumption) ?_)
      (try simp only [Act.put, List.setIfInBounds_toArray, List.set_cons_zero, List.set_cons_succ])
      first | (refine take_on (i := 1) (v := ?_) rfl (by kernel_rfl) (by kernel_rfl) (by kernel_rfl) (fun _ _ _ h => h) rfl ?_ (by assumption) ?_; rotate_left; · (intro w' hSw; (try dsimp only at hSw); go_simp; (try with_reducible rfl))) | (refine take_off (i := 1) rfl (by kernel_rfl) (by kernel_rfl) (by kernel_rfl) (fun _ _ _ h => h) rfl (by assumption) ?_)
      (try simp only [Act.put, List.setIfInBounds_toArray, List.set_cons_zero, List.set_cons_succ])
      first | (refine take_on (i := 2) (v := ?_) rfl (by kernel_rfl) (by kernel_rfl) (by kernel_rfl) (fun _ _ _ h => h) rfl ?_ (by assumption) ?_; rotate_left; · (intro w' hSw; (try dsimp only at hSw); go_simp; (try with_reducible rfl))) | (refine take_off (i := 2) rfl (by kernel_rfl) (by kernel_rfl) (by kernel_rfl) (fun _ _ _ h => h) rfl (by assumption) ?_)
      (try simp only [Act.put, List.setIfInBounds_toArray, List.set_cons_zero, List.set_cons_succ])
      first | (refine take_on (i := 3) (v := ?_) rfl (by kernel_rfl) (by kernel_rfl) (by kernel_rfl) (fun _ _ _ h => h) rfl ?_ (by assumption) ?_; rotate_left; · (intro w' hSw; (try dsimp only at hSw); go_simp; (try with_reducible rfl))) | (refine take_off (i := 3) rfl (by kernel_rfl) (by kernel_rfl) (by kernel_rfl) (fun _ _ _ h => h) rfl (by assumption) ?_)
      (try simp only [Act.put, List.setIfInBounds_toArray, List.set_cons_zero, List.set_cons_succ])
      first | (refine take_on (i := 4) (v := ?_) rfl (by kernel_rfl) (by kernel_rfl) (by kernel_rfl) (fun _ _ _ h => h) rfl ?_ (by assumption) ?_; rotate_left; · (intro w' hSw; (try dsimp only at hSw); go_simp; (try with_reducible rfl))) | (refine take_off (i := 4) rfl (by kernel_rfl) (by kernel_rfl) (by kernel_rfl) (fun _ _ _ h => h) rfl (by assumption) ?_)
      (try simp only [Act.put, List.setIfInBounds_toArray, List.set_cons_zero, List.set_cons_succ])
      first | (refine take_on (i := 5) (v := ?_) rfl (by kernel_rfl) (by kernel_rfl) (by kernel_rfl) (fun _ _ _ h => h) rfl ?_ (by assumption) ?_; rotate_left; · (intro w' hSw; (try dsimp only at hSw); go_simp; (try with_reducible rfl))) | (refine take_off (i := 5) rfl (by kernel_rfl) (by kernel_rfl) (by kernel_rfl) (fun _ _ _ h => h) rfl (by assumption) ?_)
      (try simp only [Act.put, List.setIfInBounds_toArray, List.set_cons_zero, List.set_cons_succ])
      first | (refine take_on (i := 6) (v := ?_) rfl (by kernel_rfl) (by kernel_rfl) (by kernel_rfl) (fun _ _ _ h => h) rfl ?_ (by assumption) ?_; rotate_left; · (intro w' hSw; (try dsimp only at hSw); go_simp; (try with_reducible rfl))) | (refine take_off (i := 6) rfl (by kernel_rfl) (by kernel_rfl) (by kernel_rfl) (fun _ _ _ h => h) rfl (by assumption) ?_)
      (try simp only [Act.put, List.setIfInBounds_toArray, List.set_cons_zero, List.set_cons_succ])
      first | (refine take_on (i := 7) (v := ?_) rfl (by kernel_rfl) (by kernel_rfl) (by kernel_rfl) (fun _ _ _ h => h) rfl ?_ (by assumption) ?_; rotate_left; · (intro w' hSw; (try dsimp only at hSw); go_simp; (try with_reducible rfl))) | (refine take_off (i := 7) rfl (by kernel_rfl) (by kernel_rfl) (by kernel_rfl) (fun _ _ _ h => h) rfl (by assumption) ?_)
      (try simp only [Act.put, List.setIfInBounds_toArray, List.set_cons_zero, List.set_cons_succ])
      refine wpAnyH_ready (rs := [8]) (by kernel_rfl) (by simp) ?_
      refine AllReadyH.cons rfl (fun K hK => ?_) AllReadyH.nil
      rw [if_pos (by rfl)]
      go_simp
      first | (go_at_call 55; (with_reducible refine (eqRows_same S[k] T[k] _ (by first | exact P1.out | exact rowsK_ok.below P1.out (Below.drew (Below.refl _ _))) (by first | exact P2.out | exact rowsK_ok.below P2.out (Below.drew (Below.refl _ _))) PE.out hsl.out).mono ?_); rintro e w' ⟨rfl, hb⟩; obtain ⟨_, hks, hkB⟩ := SB.next (by assumption) hb; obtain ⟨hkc, hkf⟩ := bcell hb; have hkz := hb.size; (try simp only [World.size_alloc, World.size_drew] at hkz); (first | (have hkt := Nat.lt_of_succ_le hkz) | (have hkt := Nat.lt_of_lt_of_le (by assumption) hkz) | skip); clear hb)
      refine hK.out _ _ ?_ (fun hHeld2 => ?_)
      · (try dsimp only); (first | exact SB.mk hkB | exact SB.mk ((Below.refl _ _).drew) | (go_split_ands; refine SB.mk (Below.drew ?_); assumption) | (refine SB.mk ?_; go_grown; done) | (go_split_ands; refine SB.mk ?_; go_grown; done))
      clear hK K hHeld; have hHeld := hHeld2; clear hHeld2; (try simp only [Act.put, List.setIfInBounds_toArray, List.set_cons_zero, List.set_cons_succ])
      first | (refine take_on (i := 9) (v := ?_) rfl (by kernel_rfl) (by kernel_rfl) (by kernel_rfl) (fun _ _ _ h => h) rfl ?_ (by assumption) ?_; rotate_left; · (intro w' hSw; (try dsimp only at hSw); go_simp; (try with_reducible rfl))) | (refine take_off (i := 9) rfl (by kernel_rfl) (by kernel_rfl) (by kernel_rfl) (fun _ _ _ h => h) rfl (by assumption) ?_)
      (try simp only [Act.put, List.setIfInBounds_toArray, List.set_cons_zero, List.set_cons_succ])
      refine wpAnyH_done (by kernel_rfl) ?_ _
      go_split_ands
      go_wp2_with fail
      go_roundw
      case rel => exact ⟨k + 1, by omega, by go_num, Below.next hW (by assumption)⟩
      case measure => simp [intOf]; omega
    · go_wp2_with fail
      go_ret
      exact ⟨rfl, hW⟩

theorem eqChannel_same (a : Ch) (w : World) :
    Calls Try.prog 54 #[.agg #[.string a.name, .string a.unit, .int .i64 a.low, .int .i64 a.high], .agg #[.string a.name, .string a.unit, .int .i64 a.low, .int .i64 a.high]] w fun e w' => e = .returned (.bool true) ∧ Below w.heap.size w w' := by
  go_enter Try.func54, Try.ntmps54
  go_wp2_with fail
  go_ret
  exact ⟨rfl, by go_grown⟩
set_option maxHeartbeats 4000000 in
theorem eqChannelS_same (A B : Option Addr) (n c d : Nat) (l : List Ch) (w : World) (ha : Rd w A n 4 (rowOf chC l)) (hb : Rd w B n 4 (rowOf chC l)) (la : l.length = n) (hn : n ≤ 1048576) :
    Calls Try.prog 27 #[.slice A n c, .slice B n d] w fun e w' => e = .returned (.bool true) ∧ Below w.heap.size w w' := by
  have HA := Lib.hid ha
  have HD := Lib.hid hb
  have LA := Lib.hid la
  clear ha hb la
  go_enter Try.func27, Try.ntmps27
  go_wp2_with fail
  go_loopw [5] (fun i wr => ∃ k : Nat, k ≤ n ∧ i = .int .i64 k ∧ Below w.heap.size w wr) (fun i _ => n - (intOf i).toNat)
  case atStart => exact ⟨0, Nat.zero_le _, rfl, Below.refl _ _⟩
  case round =>
    obtain ⟨k, hk, rfl, hW⟩ := hrel
    have hWs := hW.size
    by_cases hlt : k < n
    · have ka : k < l.length := by have := LA.out; omega
      obtain ⟨b1, o1, rfl, l1, hc1⟩ := (HA.out.below hW).at chC_len LA.out ka
      obtain ⟨b2, o2, rfl, l2, hc2⟩ := (HD.out.below hW).at chC_len LA.out ka
      have x0 : wr.cell? ⟨b1, o1 + k * 4, none⟩ = some (.string l[k].name) := by simpa using hc1 0 _ rfl
      have x1 : wr.cell? ⟨b1, o1 + k * 4 + 1, none⟩ = some (.string l[k].unit) := hc1 1 _ rfl
      have x2 : wr.cell? ⟨b1, o1 + k * 4 + 2, none⟩ = some (.int .i64 l[k].low) := hc1 2 _ rfl
      have x3 : wr.cell? ⟨b1, o1 + k * 4 + 3, none⟩ = some (.int .i64 l[k].high) := hc1 3 _ rfl
      have y0 : wr.cell? ⟨b2, o2 + k * 4, none⟩ = some (.string l[k].name) := by simpa using hc2 0 _ rfl
      have y1 : wr.cell? ⟨b2, o2 + k * 4 + 1, none⟩ = some (.string l[k].unit) := hc2 1 _ rfl
      have y2 : wr.cell? ⟨b2, o2 + k * 4 + 2, none⟩ = some (.int .i64 l[k].low) := hc2 2 _ rfl
      have y3 : wr.cell? ⟨b2, o2 + k * 4 + 3, none⟩ = some (.int .i64 l[k].high) := hc2 3 _ rfl
      clear hc1 hc2
      have hk0 : (0 : Int) ≤ (k : Int) := by omega
      have hkn : (k : Int) < (n : Int) := by omega
      go_wp2_with fail
      refine wp_region_held_drew (S := (fun w' => (∀ kb ko, kb < wr.heap.size → w'.cell? ⟨kb, ko, none⟩ = wr.cell? ⟨kb, ko, none⟩) ∧ wr.heap.size ≤ w'.heap.size ∧ Below wr.heap.size wr w')) (by kernel_rfl) ?_ (fun hHeld => ?_)
      · (try dsimp only); (first | exact SB.mk hkB | exact SB.mk ((Below.refl _ _).drew) | (go_split_ands; refine SB.mk (Below.drew ?_); assumption) | (refine SB.mk ?_; go_grown; done) | (go_split_ands; refine SB.mk ?_; go_grown; done))
      first | (refine take_on (i := 0) (v := ?_) rfl (by kernel_rfl) (by kernel_rfl) (by kernel_rfl) (fun _ _ _ h => h) rfl ?_ (by assumption) ?_; rotate_left; · (intro w' hSw; (try dsimp only at hSw); go_simp; (try with_reducible rfl))) | (refine take_off (i := 0) rfl (by kernel_rfl) (by kernel_rfl) (by kernel_rfl) (fun _ _ _ h => h) rfl (by assumption) ?_)
      (try simp only [Act.put, List.setIfInBounds_toArray, List.set_cons_zero, List.set_cons_succ])
      first | (refine take_on (i := 1) (v := ?_) rfl (by kernel_rfl) (by kernel_rfl) (by kernel_rfl) (fun _ _ _ h => h) rfl ?_ (by assumption) ?_; rotate_left; · (intro w' hSw; (try dsimp only at hSw); go_simp; (try with_reducible rfl))) | (refine take_off (i := 1) rfl (by kernel_rfl) (by kernel_rfl) (by kernel_rfl) (fun _ _ _ h => h) rfl (by assumption) ?_)
      (try simp only [Act.put, List.setIfInBounds_toArray, List.set_cons_zero, List.set_cons_succ])
      first | (refine take_on (i := 2) (v := ?_) rfl (by kernel_rfl) (by kernel_rfl) (by kernel_rfl) (fun _ _ _ h => h) rfl ?_ (by assumption) ?_; rotate_left; · (intro w' hSw; (try dsimp only at hSw); go_simp; (try with_reducible rfl))) | (refine take_off (i := 2) rfl (by kernel_rfl) (by kernel_rfl) (by kernel_rfl) (fun _ _ _ h => h) rfl (by assumption) ?_)
      (try simp only [Act.put, List.setIfInBounds_toArray, List.set_cons_zero, List.set_cons_succ])
      first | (refine take_on (i := 3) (v := ?_) rfl (by kernel_rfl) (by kernel_rfl) (by kernel_rfl) (fun _ _ _ h => h) rfl ?_ (by assumption) ?_; rotate_left; · (intro w' hSw; (try dsimp only at hSw); go_simp; (try with_reducible rfl))) | (refine take_off (i := 3) rfl (by kernel_rfl) (by kernel_rfl) (by kernel_rfl) (fun _ _ _ h => h) rfl (by assumption) ?_)
      (try simp only [Act.put, List.setIfInBounds_toArray, List.set_cons_zero, List.set_cons_succ])
      first | (refine take_on (i := 4) (v := ?_) rfl (by kernel_rfl) (by kernel_rfl) (by kernel_rfl) (fun _ _ _ h => h) rfl ?_ (by assumption) ?_; rotate_left; · (intro w' hSw; (try dsimp only at hSw); go_simp; (try with_reducible rfl))) | (refine take_off (i := 4) rfl (by kernel_rfl) (by kernel_rfl) (by kernel_rfl) (fun _ _ _ h => h) rfl (by assumption) ?_)
      (try simp only [Act.put, List.setIfInBounds_toArray, List.set_cons_zero, List.set_cons_succ])
      first | (refine take_on (i := 5) (v := ?_) rfl (by kernel_rfl) (by kernel_rfl) (by kernel_rfl) (fun _ _ _ h => h) rfl ?_ (by assumption) ?_; rotate_left; · (intro w' hSw; (try dsimp only at hSw); go_simp; (try with_reducible rfl))) | (refine take_off (i := 5) rfl (by kernel_rfl) (by kernel_rfl) (by kernel_rfl) (fun _ _ _ h => h) rfl (by assumption) ?_)
      (try simp only [Act.put, List.setIfInBounds_toArray, List.set_cons_zero, List.set_cons_succ])
      first | (refine take_on (i := 6) (v := ?_) rfl (by kernel_rfl) (by kernel_rfl) (by kernel_rfl) (fun _ _ _ h => h) rfl ?_ (by assumption) ?_; rotate_left; · (intro w' hSw; (try dsimp only at hSw); go_simp; (try with_reducible rfl))) | (refine take_off (i := 6) rfl (by kernel_rfl) (by kernel_rfl) (by kernel_rfl) (fun _ _ _ h => h) rfl (by assumption) ?_)
      (try simp only [Act.put, List.setIfInBounds_toArray, List.set_cons_zero, List.set_cons_succ])
      first | (refine take_on (i := 7) (v := ?_) rfl (by kernel_rfl) (by kernel_rfl) (by kernel_rfl) (fun _ _ _ h => h) rfl ?_ (by assumption) ?_; rotate_left; · (intro w' hSw; (try dsimp only at hSw); go_simp; (try with_reducible rfl))) | (refine take_off (i := 7) rfl (by kernel_rfl) (by kernel_rfl) (by kernel_rfl) (fun _ _ _ h => h) rfl (by assumption) ?_)
      (try simp only [Act.put, List.setIfInBounds_toArray, List.set_cons_zero, List.set_cons_succ])
      refine wpAnyH_ready (rs := [8]) (by kernel_rfl) (by simp) ?_
      refine AllReadyH.cons rfl (fun K hK => ?_) AllReadyH.nil
      rw [if_pos (by rfl)]
      go_simp
      first | (go_at_call 54; (with_reducible refine (eqChannel_same l[k] _).mono ?_); rintro e w' ⟨rfl, hb⟩; obtain ⟨_, hks, hkB⟩ := SB.next (by assumption) hb; obtain ⟨hkc, hkf⟩ := bcell hb; have hkz := hb.size; (try simp only [World.size_alloc, World.size_drew] at hkz); (first | (have hkt := Nat.lt_of_succ_le hkz) | (have hkt := Nat.lt_of_lt_of_le (by assumption) hkz) | skip); clear hb)
      refine hK.out _ _ ?_ (fun hHeld2 => ?_)
      · (try dsimp only); (first | exact SB.mk hkB | exact SB.mk ((Below.refl _ _).drew) | (go_split_ands; refine SB.mk (Below.drew ?_); assumption) | (refine SB.mk ?_; go_grown; done) | (go_split_ands; refine SB.mk ?_; go_grown; done))
      clear hK K hHeld; have hHeld := hHeld2; clear hHeld2; (try simp only [Act.put, List.setIfInBounds_toArray, List.set_cons_zero, List.set_cons_succ])
      first | (refine take_on (i := 9) (v := ?_) rfl (by kernel_rfl) (by kernel_rfl) (by kernel_rfl) (fun _ _ _ h => h) rfl ?_ (by assumption) ?_; rotate_left; · (intro w' hSw; (try dsimp only at hSw); go_simp; (try with_reducible rfl))) | (refine take_off (i := 9) rfl (by kernel_rfl) (by kernel_rfl) (by kernel_rfl) (fun _ _ _ h => h) rfl (by assumption) ?_)
      (try simp only [Act.put, List.setIfInBounds_toArray, List.set_cons_zero, List.set_cons_succ])
      refine wpAnyH_done (by kernel_rfl) ?_ _
      go_split_ands
      go_wp2_with fail
      go_roundw
      case rel => exact ⟨k + 1, by omega, by go_num, Below.next hW (by assumption)⟩
      case measure => simp [intOf]; omega
    · go_wp2_with fail
      go_ret
      exact ⟨rfl, hW⟩

theorem eqNote_same (a : No) (w : World) :
    Calls Try.prog 56 #[.agg #[.int .i64 a.fr, .int .i64 a.til, .string a.text], .agg #[.int .i64 a.fr, .int .i64 a.til, .string a.text]] w fun e w' => e = .returned (.bool true) ∧ Below w.heap.size w w' := by
  go_enter Try.func56, Try.ntmps56
  go_wp2_with fail
  go_ret
  exact ⟨rfl, by go_grown⟩
set_option maxHeartbeats 4000000 in
theorem eqNoteS_same (A B : Option Addr) (n c d : Nat) (l : List No) (w : World) (ha : Rd w A n 3 (rowOf noC l)) (hb : Rd w B n 3 (rowOf noC l)) (la : l.length = n) (hn : n ≤ 1048576) :
    Calls Try.prog 29 #[.slice A n c, .slice B n d] w fun e w' => e = .returned (.bool true) ∧ Below w.heap.size w w' := by
  have HA := Lib.hid ha
  have HD := Lib.hid hb
  have LA := Lib.hid la
  clear ha hb la
  go_enter Try.func29, Try.ntmps29
  go_wp2_with fail
  go_loopw [5] (fun i wr => ∃ k : Nat, k ≤ n ∧ i = .int .i64 k ∧ Below w.heap.size w wr) (fun i _ => n - (intOf i).toNat)
  case atStart => exact ⟨0, Nat.zero_le _, rfl, Below.refl _ _⟩
  case round =>
    obtain ⟨k, hk, rfl, hW⟩ := hrel
    have hWs := hW.size
    by_cases hlt : k < n
    · have ka : k < l.length := by have := LA.out; omega
      obtain ⟨b1, o1, rfl, l1, hc1⟩ := (HA.out.below hW).at noC_len LA.out ka
      obtain ⟨b2, o2, rfl, l2, hc2⟩ := (HD.out.below hW).at noC_len LA.out ka
      have x0 : wr.cell? ⟨b1, o1 + k * 3, none⟩ = some (.int .i64 l[k].fr) := by simpa using hc1 0 _ rfl
      have x1 : wr.cell? ⟨b1, o1 + k * 3 + 1, none⟩ = some (.int .i64 l[k].til) := hc1 1 _ rfl
      have x2 : wr.cell? ⟨b1, o1 + k * 3 + 2, none⟩ = some (.string l[k].text) := hc1 2 _ rfl
      have y0 : wr.cell? ⟨b2, o2 + k * 3, none⟩ = some (.int .i64 l[k].fr) := by simpa using hc2 0 _ rfl
      have y1 : wr.cell? ⟨b2, o2 + k * 3 + 1, none⟩ = some (.int .i64 l[k].til) := hc2 1 _ rfl
      have y2 : wr.cell? ⟨b2, o2 + k * 3 + 2, none⟩ = some (.string l[k].text) := hc2 2 _ rfl
      clear hc1 hc2
      have hk0 : (0 : Int) ≤ (k : Int) := by omega
      have hkn : (k : Int) < (n : Int) := by omega
      go_wp2_with fail
      refine wp_region_held_drew (S := (fun w' => (∀ kb ko, kb < wr.heap.size → w'.cell? ⟨kb, ko, none⟩ = wr.cell? ⟨kb, ko, none⟩) ∧ wr.heap.size ≤ w'.heap.size ∧ Below wr.heap.size wr w')) (by kernel_rfl) ?_ (fun hHeld => ?_)
      · (try dsimp only); (first | exact SB.mk hkB | exact SB.mk ((Below.refl _ _).drew) | (go_split_ands; refine SB.mk (Below.drew ?_); assumption) | (refine SB.mk ?_; go_grown; done) | (go_split_ands; refine SB.mk ?_; go_grown; done))
      first | (refine take_on (i := 0) (v := ?_) rfl (by kernel_rfl) (by kernel_rfl) (by kernel_rfl) (fun _ _ _ h => h) rfl ?_ (by assumption) ?_; rotate_left; · (intro w' hSw; (try dsimp only at hSw); go_simp; (try with_reducible rfl))) | (refine take_off (i := 0) rfl (by kernel_rfl) (by kernel_rfl) (by kernel_rfl) (fun _ _ _ h => h) rfl (by assumption) ?_)
      (try simp only [Act.put, List.setIfInBounds_toArray, List.set_cons_zero, List.set_cons_succ])
      first | (refine take_on (i := 1) (v := ?_) rfl (by kernel_rfl) (by kernel_rfl) (by kernel_rfl) (fun _ _ _ h => h) rfl ?_ (by assumption) ?_; rotate_left; · (intro w' hSw; (try dsimp only at hSw); go_simp; (try with_reducible rfl))) | (refine take_off (i := 1) rfl (by kernel_rfl) (by kernel_rfl) (by kernel_rfl) (fun _ _ _ h => h) rfl (by assumption) ?_)
      (try simp only [Act.put, List.setIfInBounds_toArray, List.set_cons_zero, List.set_cons_succ])
      first | (refine take_on (i := 2) (v := ?_) rfl (by kernel_rfl) (by kernel_rfl) (by kernel_rfl) (fun _ _ _ h => h) rfl ?_ (by assumption) ?_; rotate_left; · (intro w' hSw; (try dsimp only at hSw); go_simp; (try with_reducible rfl))) | (refine take_off (i := 2) rfl (by kernel_rfl) (by kernel_rfl) (by kernel_rfl) (fun _ _ _ h => h) rfl (by assumption) ?_)
      (try simp only [Act.put, List.setIfInBounds_toArray, List.set_cons_zero, List.set_cons_succ])
      first | (refine take_on (i := 3) (v := ?_) rfl (by kernel_rfl) (by kernel_rfl) (by kernel_rfl) (fun _ _ _ h => h) rfl ?_ (by assumption) ?_; rotate_left; · (intro w' hSw; (try dsimp only at hSw); go_simp; (try with_reducible rfl))) | (refine take_off (i := 3) rfl (by kernel_rfl) (by kernel_rfl) (by kernel_rfl) (fun _ _ _ h => h) rfl (by assumption) ?_)
      (try simp only [Act.put, List.setIfInBounds_toArray, List.set_cons_zero, List.set_cons_succ])
      first | (refine take_on (i := 4) (v := ?_) rfl (by kernel_rfl) (by kernel_rfl) (by kernel_rfl) (fun _ _ _ h => h) rfl ?_ (by assumption) ?_; rotate_left; · (intro w' hSw; (try dsimp only at hSw); go_simp; (try with_reducible rfl))) | (refine take_off (i := 4) rfl (by kernel_rfl) (by kernel_rfl) (by kernel_rfl) (fun _ _ _ h => h) rfl (by assumption) ?_)
      (try simp only [Act.put, List.setIfInBounds_toArray, List.set_cons_zero, List.set_cons_succ])
      first | (refine take_on (i := 5) (v := ?_) rfl (by kernel_rfl) (by kernel_rfl) (by kernel_rfl) (fun _ _ _ h => h) rfl ?_ (by assumption) ?_; rotate_left; · (intro w' hSw; (try dsimp only at hSw); go_simp; (try with_reducible rfl))) | (refine take_off (i := 5) rfl (by kernel_rfl) (by kernel_rfl) (by kernel_rfl) (fun _ _ _ h => h) rfl (by assumption) ?_)
      (try simp only [Act.put, List.setIfInBounds_toArray, List.set_cons_zero, List.set_cons_succ])
      first | (refine take_on (i := 6) (v := ?_) rfl (by kernel_rfl) (by kernel_rfl) (by kernel_rfl) (fun _ _ _ h => h) rfl ?_ (by assumption) ?_; rotate_left; · (intro w' hSw; (try dsimp only at hSw); go_simp; (try with_reducible rfl))) | (refine take_off (i := 6) rfl (by kernel_rfl) (by kernel_rfl) (by kernel_rfl) (fun _ _ _ h => h) rfl (by assumption) ?_)
      (try simp only [Act.put, List.setIfInBounds_toArray, List.set_cons_zero, List.set_cons_succ])
      first | (refine take_on (i := 7) (v := ?_) rfl (by kernel_rfl) (by kernel_rfl) (by kernel_rfl) (fun _ _ _ h => h) rfl ?_ (by assumption) ?_; rotate_left; · (intro w' hSw; (try dsimp only at hSw); go_simp; (try with_reducible rfl))) | (refine take_off (i := 7) rfl (by kernel_rfl) (by kernel_rfl) (by kernel_rfl) (fun _ _ _ h => h) rfl (by assumption) ?_)
      (try simp only [Act.put, List.setIfInBounds_toArray, List.set_cons_zero, List.set_cons_succ])
      refine wpAnyH_ready (rs := [8]) (by kernel_rfl) (by simp) ?_
      refine AllReadyH.cons rfl (fun K hK => ?_) AllReadyH.nil
      rw [if_pos (by rfl)]
      go_simp
      first | (go_at_call 56; (with_reducible refine (eqNote_same l[k] _).mono ?_); rintro e w' ⟨rfl, hb⟩; obtain ⟨_, hks, hkB⟩ := SB.next (by assumption) hb; obtain ⟨hkc, hkf⟩ := bcell hb; have hkz := hb.size; (try simp only [World.size_alloc, World.size_drew] at hkz); (first | (have hkt := Nat.lt_of_succ_le hkz) | (have hkt := Nat.lt_of_lt_of_le (by assumption) hkz) | skip); clear hb)
      refine hK.out _ _ ?_ (fun hHeld2 => ?_)
      · (try dsimp only); (first | exact SB.mk hkB | exact SB.mk ((Below.refl _ _).drew) | (go_split_ands; refine SB.mk (Below.drew ?_); assumption) | (refine SB.mk ?_; go_grown; done) | (go_split_ands; refine SB.mk ?_; go_grown; done))
      clear hK K hHeld; have hHeld := hHeld2; clear hHeld2; (try simp only [Act.put, List.setIfInBounds_toArray, List.set_cons_zero, List.set_cons_succ])
      first | (refine take_on (i := 9) (v := ?_) rfl (by kernel_rfl) (by kernel_rfl) (by kernel_rfl) (fun _ _ _ h => h) rfl ?_ (by assumption) ?_; rotate_left; · (intro w' hSw; (try dsimp only at hSw); go_simp; (try with_reducible rfl))) | (refine take_off (i := 9) rfl (by kernel_rfl) (by kernel_rfl) (by kernel_rfl) (fun _ _ _ h => h) rfl (by assumption) ?_)
      (try simp only [Act.put, List.setIfInBounds_toArray, List.set_cons_zero, List.set_cons_succ])
      refine wpAnyH_done (by kernel_rfl) ?_ _
      go_split_ands
      go_wp2_with fail
      go_roundw
      case rel => exact ⟨k + 1, by omega, by go_num, Below.next hW (by assumption)⟩
      case measure => simp [intOf]; omega
    · go_wp2_with fail
      go_ret
      exact ⟨rfl, hW⟩
end Go.Proofs.Ytmdmjnhebbhjbaa
namespace Go.Proofs.Ytmdmjnhebbhjbaa
set_option linter.unusedSimpArgs false
set_option linter.unusedVariables false
set_option maxRecDepth 20000
open Go.RowKit
open Go.ChangeShapes Go.WideShapes Go.Deep Go.Joins

set_option maxHeartbeats 4000000 in
theorem heldChannelS_any (A : Option Addr) (n c k : Nat) (w : World) (h : Rd w A n 4 (rowOf chC (marksC k n))) (hn : n ≤ 1048576) (hk0 : 0 < k) (hk : k ≤ 1073741824) :
    Calls Try.prog 33 #[.slice A n c, .int .i64 (k : Int)] w fun e w' => e = .returned (.int .i64 ((k + 4 * n : Nat) : Int)) ∧ Below w.heap.size w w' := by
  have HH := Lib.hid h
  clear h
  go_enter Try.func33, Try.ntmps33
  go_wp2_with fail
  go_loopw [1, 5] (fun kk i wr => ∃ (j q : Nat), j ≤ n ∧ i = .int .i64 (j : Int) ∧ kk = .int .i64 (q : Int) ∧ q ≤ k + 4 * j ∧ 0 < q ∧ Hid (k + 4 * j = q) ∧ Below w.heap.size w wr) (fun _ i _ => n - (intOf i).toNat)
  case atStart => exact ⟨0, k, by omega, rfl, rfl, by omega, hk0, rfl, Below.refl _ _⟩
  case round =>
    obtain ⟨j, q, hj, rfl, rfl, hqb, hq0, hq, hW⟩ := hrel
    have hWs := hW.size
    by_cases hlt : j < n
    · have hmj : j < (marksC k n).length := by rw [marksC_len]; exact hlt
      obtain ⟨b1, o1, rfl, l0, hc1⟩ := HH.out.at chC_len (marksC_len k n) hmj
      rw [marksC_at, hq.out] at hc1
      have l1 : b1 < wr.heap.size := by omega
      have e0 : w.cell? ⟨b1, o1 + j * 4, none⟩ = some (.string (markT q)) := by simpa using hc1 0 _ rfl
      have e1 : w.cell? ⟨b1, o1 + j * 4 + 1, none⟩ = some (.string (markT (q + 1))) := hc1 1 _ rfl
      have e2 : w.cell? ⟨b1, o1 + j * 4 + 2, none⟩ = some (.int .i64 ((q + 2 : Nat) : Int)) := hc1 2 _ rfl
      have e3 : w.cell? ⟨b1, o1 + j * 4 + 3, none⟩ = some (.int .i64 ((q + 3 : Nat) : Int)) := hc1 3 _ rfl
      rw [show ((q + 2 : Nat) : Int) = (q : Int) + 1 + 1 by omega] at e2
      rw [show ((q + 3 : Nat) : Int) = (q : Int) + 1 + 1 + 1 by omega] at e3
      obtain ⟨y0, hy0⟩ : ∃ y0, markT q = y0 := ⟨_, rfl⟩
      obtain ⟨y1, hy1⟩ : ∃ y1, markT (q + 1) = y1 := ⟨_, rfl⟩
      have hm0 := fun w => markText_any q hq0 (by omega) w
      have hm1 := fun w => markText_z (z := (q : Int) + 1) (k := q + 1) (by omega) (by omega) (by omega) w
      rw [hy0] at e0 hm0
      rw [hy1] at e1 hm1
      have HM0 := Lib.hid hm0
      have HM1 := Lib.hid hm1
      clear hm0 hm1 hy0 hy1
      have c0 : wr.cell? ⟨b1, o1 + j * 4, none⟩ = some (.string y0) := (hW.cell (p := ⟨b1, _, none⟩) l0).trans e0
      have d1 : wr.cell? ⟨b1, o1 + j * 4 + 1, none⟩ = some (.string y1) := (hW.cell (p := ⟨b1, _, none⟩) l0).trans e1
      have d2 : wr.cell? ⟨b1, o1 + j * 4 + 2, none⟩ = some (.int .i64 ((q : Int) + 1 + 1)) := (hW.cell (p := ⟨b1, _, none⟩) l0).trans e2
      have d3 : wr.cell? ⟨b1, o1 + j * 4 + 3, none⟩ = some (.int .i64 ((q : Int) + 1 + 1 + 1)) := (hW.cell (p := ⟨b1, _, none⟩) l0).trans e3
      have hj0 : (0 : Int) ≤ (j : Int) := by omega
      have hjn : (j : Int) < (n : Int) := by omega
      clear hc1
      go_wp2_with fail
      refine wp_region_held_drew (S := (fun w' => (∀ kb ko, kb < wr.heap.size → w'.cell? ⟨kb, ko, none⟩ = wr.cell? ⟨kb, ko, none⟩) ∧ wr.heap.size ≤ w'.heap.size ∧ Below wr.heap.size wr w')) (by kernel_rfl) ?_ (fun hHeld => ?_)
      · (try dsimp only); (first | exact SB.mk hkB | exact SB.mk ((Below.refl _ _).drew) | (go_split_ands; refine SB.mk (Below.drew ?_); assumption) | (refine SB.mk ?_; go_grown; done) | (go_split_ands; refine SB.mk ?_; go_grown; done))
      first | (refine take_on (i := 0) (v := ?_) rfl (by kernel_rfl) (by kernel_rfl) (by kernel_rfl) (fun _ _ _ h => h) rfl ?_ (by assumption) ?_; rotate_left; · (intro w' hSw; (try dsimp only at hSw); go_simp; (try with_reducible rfl))) | (refine take_off (i := 0) rfl (by kernel_rfl) (by kernel_rfl) (by kernel_rfl) (fun _ _ _ h => h) rfl (by assumption) ?_)
      (try simp only [Act.put, List.setIfInBounds_toArray, List.set_cons_zero, List.set_cons_succ])
      first | (refine take_on (i := 1) (v := ?_) rfl (by kernel_rfl) (by kernel_rfl) (by kernel_rfl) (fun _ _ _ h => h) rfl ?_ (by assumption) ?_; rotate_left; · (intro w' hSw; (try dsimp only at hSw); go_simp; (try with_reducible rfl))) | (refine take_off (i := 1) rfl (by kernel_rfl) (by kernel_rfl) (by kernel_rfl) (fun _ _ _ h => h) rfl (by assumption) ?_)
      (try simp only [Act.put, List.setIfInBounds_toArray, List.set_cons_zero, List.set_cons_succ])
      first | (refine take_on (i := 2) (v := ?_) rfl (by kernel_rfl) (by kernel_rfl) (by kernel_rfl) (fun _ _ _ h => h) rfl ?_ (by assumption) ?_; rotate_left; · (intro w' hSw; (try dsimp only at hSw); go_simp; (try with_reducible rfl))) | (refine take_off (i := 2) rfl (by kernel_rfl) (by kernel_rfl) (by kernel_rfl) (fun _ _ _ h => h) rfl (by assumption) ?_)
      (try simp only [Act.put, List.setIfInBounds_toArray, List.set_cons_zero, List.set_cons_succ])
      first | (refine take_on (i := 3) (v := ?_) rfl (by kernel_rfl) (by kernel_rfl) (by kernel_rfl) (fun _ _ _ h => h) rfl ?_ (by assumption) ?_; rotate_left; · (intro w' hSw; (try dsimp only at hSw); go_simp; (try with_reducible rfl))) | (refine take_off (i := 3) rfl (by kernel_rfl) (by kernel_rfl) (by kernel_rfl) (fun _ _ _ h => h) rfl (by assumption) ?_)
      (try simp only [Act.put, List.setIfInBounds_toArray, List.set_cons_zero, List.set_cons_succ])
      first | (refine take_on (i := 4) (v := ?_) rfl (by kernel_rfl) (by kernel_rfl) (by kernel_rfl) (fun _ _ _ h => h) rfl ?_ (by assumption) ?_; rotate_left; · (intro w' hSw; (try dsimp only at hSw); go_simp; (try with_reducible rfl))) | (refine take_off (i := 4) rfl (by kernel_rfl) (by kernel_rfl) (by kernel_rfl) (fun _ _ _ h => h) rfl (by assumption) ?_)
      (try simp only [Act.put, List.setIfInBounds_toArray, List.set_cons_zero, List.set_cons_succ])
      first | (refine take_on (i := 5) (v := ?_) rfl (by kernel_rfl) (by kernel_rfl) (by kernel_rfl) (fun _ _ _ h => h) rfl ?_ (by assumption) ?_; rotate_left; · (intro w' hSw; (try dsimp only at hSw); go_simp; (try with_reducible rfl))) | (refine take_off (i := 5) rfl (by kernel_rfl) (by kernel_rfl) (by kernel_rfl) (fun _ _ _ h => h) rfl (by assumption) ?_)
      (try simp only [Act.put, List.setIfInBounds_toArray, List.set_cons_zero, List.set_cons_succ])
      refine wpAnyH_ready (rs := [6]) (by kernel_rfl) (by simp) ?_
      refine AllReadyH.cons rfl (fun K hK => ?_) AllReadyH.nil
      rw [if_pos (by rfl)]
      go_simp
      first | (go_at_call 57; (with_reducible refine (HM0.out _).mono ?_); rintro e w' ⟨rfl, hb⟩; obtain ⟨_, hks, hkB⟩ := SB.next (by assumption) hb; obtain ⟨hkc, hkf⟩ := bcell hb; have hkz := hb.size; (try simp only [World.size_alloc, World.size_drew] at hkz); (first | (have hkt := Nat.lt_of_succ_le hkz) | (have hkt := Nat.lt_of_lt_of_le (by assumption) hkz) | skip); clear hb)
      refine hK.out _ _ ?_ (fun hHeld2 => ?_)
      · (try dsimp only); (first | exact SB.mk hkB | exact SB.mk ((Below.refl _ _).drew) | (go_split_ands; refine SB.mk (Below.drew ?_); assumption) | (refine SB.mk ?_; go_grown; done) | (go_split_ands; refine SB.mk ?_; go_grown; done))
      clear hK K hHeld; have hHeld := hHeld2; clear hHeld2; (try simp only [Act.put, List.setIfInBounds_toArray, List.set_cons_zero, List.set_cons_succ])
      first | (refine take_on (i := 7) (v := ?_) rfl (by kernel_rfl) (by kernel_rfl) (by kernel_rfl) (fun _ _ _ h => h) rfl ?_ (by assumption) ?_; rotate_left; · (intro w' hSw; (try dsimp only at hSw); go_simp; (try with_reducible rfl))) | (refine take_off (i := 7) rfl (by kernel_rfl) (by kernel_rfl) (by kernel_rfl) (fun _ _ _ h => h) rfl (by assumption) ?_)
      (try simp only [Act.put, List.setIfInBounds_toArray, List.set_cons_zero, List.set_cons_succ])
      refine wpAnyH_done (by kernel_rfl) ?_ _
      go_split_ands
      obtain ⟨w2, rfl⟩ : ∃ w2, w2 = w' := ⟨w', rfl⟩
      have hW2 : Below w.heap.size w w2 := Below.next hW (by assumption)
      have l2 : b1 < w2.heap.size := by have := hW2.size; omega
      have c1 : w2.cell? ⟨b1, o1 + j * 4 + 1, none⟩ = some (.string y1) := (hW2.cell (p := ⟨b1, _, none⟩) l0).trans e1
      go_wp2_with fail
      refine wp_region_held_drew (S := (fun w' => (∀ kb ko, kb < w2.heap.size → w'.cell? ⟨kb, ko, none⟩ = w2.cell? ⟨kb, ko, none⟩) ∧ w2.heap.size ≤ w'.heap.size ∧ Below w2.heap.size w2 w')) (by kernel_rfl) ?_ (fun hHeld => ?_)
      · (try dsimp only); (first | exact SB.mk hkB | exact SB.mk ((Below.refl _ _).drew) | (go_split_ands; refine SB.mk (Below.drew ?_); assumption) | (refine SB.mk ?_; go_grown; done) | (go_split_ands; refine SB.mk ?_; go_grown; done))
      first | (refine take_on (i := 0) (v := ?_) rfl (by kernel_rfl) (by kernel_rfl) (by kernel_rfl) (fun _ _ _ h => h) rfl ?_ (by assumption) ?_; rotate_left; · (intro w' hSw; (try dsimp only at hSw); go_simp; (try with_reducible rfl))) | (refine take_off (i := 0) rfl (by kernel_rfl) (by kernel_rfl) (by kernel_rfl) (fun _ _ _ h => h) rfl (by assumption) ?_)
      (try simp only [Act.put, List.setIfInBounds_toArray, List.set_cons_zero, List.set_cons_succ])
      first | (refine take_on (i := 1) (v := ?_) rfl (by kernel_rfl) (by kernel_rfl) (by kernel_rfl) (fun _ _ _ h => h) rfl ?_ (by assumption) ?_; rotate_left; · (intro w' hSw; (try dsimp only at hSw); go_simp; (try with_reducible rfl))) | (refine take_off (i := 1) rfl (by kernel_rfl) (by kernel_rfl) (by kernel_rfl) (fun _ _ _ h => h) rfl (by assumption) ?_)
      (try simp only [Act.put, List.setIfInBounds_toArray, List.set_cons_zero, List.set_cons_succ])
      first | (refine take_on (i := 2) (v := ?_) rfl (by kernel_rfl) (by kernel_rfl) (by kernel_rfl) (fun _ _ _ h => h) rfl ?_ (by assumption) ?_; rotate_left; · (intro w' hSw; (try dsimp only at hSw); go_simp; (try with_reducible rfl))) | (refine take_off (i := 2) rfl (by kernel_rfl) (by kernel_rfl) (by kernel_rfl) (fun _ _ _ h => h) rfl (by assumption) ?_)
      (try simp only [Act.put, List.setIfInBounds_toArray, List.set_cons_zero, List.set_cons_succ])
      first | (refine take_on (i := 3) (v := ?_) rfl (by kernel_rfl) (by kernel_rfl) (by kernel_rfl) (fun _ _ _ h => h) rfl ?_ (by assumption) ?_; rotate_left; · (intro w' hSw; (try dsimp only at hSw); go_simp; (try with_reducible rfl))) | (refine take_off (i := 3) rfl (by kernel_rfl) (by kernel_rfl) (by kernel_rfl) (fun _ _ _ h => h) rfl (by assumption) ?_)
      (try simp only [Act.put, List.setIfInBounds_toArray, List.set_cons_zero, List.set_cons_succ])
      first | (refine take_on (i := 4) (v := ?_) rfl (by kernel_rfl) (by kernel_rfl) (by kernel_rfl) (fun _ _ _ h => h) rfl ?_ (by assumption) ?_; rotate_left; · (intro w' hSw; (try dsimp only at hSw); go_simp; (try with_reducible rfl))) | (refine take_off (i := 4) rfl (by kernel_rfl) (by kernel_rfl) (by kernel_rfl) (fun _ _ _ h => h) rfl (by assumption) ?_)
      (try simp only [Act.put, List.setIfInBounds_toArray, List.set_cons_zero, List.set_cons_succ])
      first | (refine take_on (i := 5) (v := ?_) rfl (by kernel_rfl) (by kernel_rfl) (by kernel_rfl) (fun _ _ _ h => h) rfl ?_ (by assumption) ?_; rotate_left; · (intro w' hSw; (try dsimp only at hSw); go_simp; (try with_reducible rfl))) | (refine take_off (i := 5) rfl (by kernel_rfl) (by kernel_rfl) (by kernel_rfl) (fun _ _ _ h => h) rfl (by assumption) ?_)
      (try simp only [Act.put, List.setIfInBounds_toArray, List.set_cons_zero, List.set_cons_succ])
      refine wpAnyH_ready (rs := [6]) (by kernel_rfl) (by simp) ?_
      refine AllReadyH.cons rfl (fun K hK => ?_) AllReadyH.nil
      rw [if_pos (by rfl)]
      go_simp
      first | (go_at_call 57; (with_reducible refine (HM1.out _).mono ?_); rintro e w' ⟨rfl, hb⟩; obtain ⟨_, hks, hkB⟩ := SB.next (by assumption) hb; obtain ⟨hkc, hkf⟩ := bcell hb; have hkz := hb.size; (try simp only [World.size_alloc, World.size_drew] at hkz); (first | (have hkt := Nat.lt_of_succ_le hkz) | (have hkt := Nat.lt_of_lt_of_le (by assumption) hkz) | skip); clear hb)
      refine hK.out _ _ ?_ (fun hHeld2 => ?_)
      · (try dsimp only); (first | exact SB.mk hkB | exact SB.mk ((Below.refl _ _).drew) | (go_split_ands; refine SB.mk (Below.drew ?_); assumption) | (refine SB.mk ?_; go_grown; done) | (go_split_ands; refine SB.mk ?_; go_grown; done))
      clear hK K hHeld; have hHeld := hHeld2; clear hHeld2; (try simp only [Act.put, List.setIfInBounds_toArray, List.set_cons_zero, List.set_cons_succ])
      first | (refine take_on (i := 7) (v := ?_) rfl (by kernel_rfl) (by kernel_rfl) (by kernel_rfl) (fun _ _ _ h => h) rfl ?_ (by assumption) ?_; rotate_left; · (intro w' hSw; (try dsimp only at hSw); go_simp; (try with_reducible rfl))) | (refine take_off (i := 7) rfl (by kernel_rfl) (by kernel_rfl) (by kernel_rfl) (fun _ _ _ h => h) rfl (by assumption) ?_)
      (try simp only [Act.put, List.setIfInBounds_toArray, List.set_cons_zero, List.set_cons_succ])
      refine wpAnyH_done (by kernel_rfl) ?_ _
      go_split_ands
      obtain ⟨w3, rfl⟩ : ∃ w2, w2 = w' := ⟨w', rfl⟩
      have hW3 : Below w.heap.size w w3 := Below.next hW2 (by assumption)
      have l3 : b1 < w3.heap.size := by have := hW3.size; omega
      have f2 : w2.cell? ⟨b1, o1 + j * 4 + 2, none⟩ = some (.int .i64 ((q : Int) + 1 + 1)) := (hW2.cell (p := ⟨b1, _, none⟩) l0).trans e2
      have f3 : w2.cell? ⟨b1, o1 + j * 4 + 3, none⟩ = some (.int .i64 ((q : Int) + 1 + 1 + 1)) := (hW2.cell (p := ⟨b1, _, none⟩) l0).trans e3
      have c2 : w3.cell? ⟨b1, o1 + j * 4 + 2, none⟩ = some (.int .i64 ((q : Int) + 1 + 1)) := (hW3.cell (p := ⟨b1, _, none⟩) l0).trans e2
      have c3 : w3.cell? ⟨b1, o1 + j * 4 + 3, none⟩ = some (.int .i64 ((q : Int) + 1 + 1 + 1)) := (hW3.cell (p := ⟨b1, _, none⟩) l0).trans e3
      go_wp2_with fail
      go_roundw
      case rel => exact ⟨j + 1, q + 4, by omega, by go_num, by go_num, by omega, by omega, by rw [Hid, ← hq.out]; omega, hW3⟩
      case measure => simp [intOf]; omega
    · obtain rfl : j = n := by omega
      go_wp2_with fail
      go_ret
      exact ⟨ret_int (by have := hq.out; omega), hW⟩
set_option maxHeartbeats 4000000 in
theorem heldNoteS_any (A : Option Addr) (n c k : Nat) (w : World) (h : Rd w A n 3 (rowOf noC (marksN k n))) (hn : n ≤ 1048576) (hk0 : 0 < k) (hk : k ≤ 1073741824) :
    Calls Try.prog 35 #[.slice A n c, .int .i64 (k : Int)] w fun e w' => e = .returned (.int .i64 ((k + 3 * n : Nat) : Int)) ∧ Below w.heap.size w w' := by
  have HH := Lib.hid h
  clear h
  go_enter Try.func35, Try.ntmps35
  go_wp2_with fail
  go_loopw [1, 5] (fun kk i wr => ∃ (j q : Nat), j ≤ n ∧ i = .int .i64 (j : Int) ∧ kk = .int .i64 (q : Int) ∧ q ≤ k + 3 * j ∧ 0 < q ∧ Hid (k + 3 * j = q) ∧ Below w.heap.size w wr) (fun _ i _ => n - (intOf i).toNat)
  case atStart => exact ⟨0, k, by omega, rfl, rfl, by omega, hk0, rfl, Below.refl _ _⟩
  case round =>
    obtain ⟨j, q, hj, rfl, rfl, hqb, hq0, hq, hW⟩ := hrel
    have hWs := hW.size
    by_cases hlt : j < n
    · have hmj : j < (marksN k n).length := by rw [marksN_len]; exact hlt
      obtain ⟨b1, o1, rfl, l0, hc1⟩ := HH.out.at noC_len (marksN_len k n) hmj
      rw [marksN_at, hq.out] at hc1
      have l1 : b1 < wr.heap.size := by omega
      have e0 : w.cell? ⟨b1, o1 + j * 3, none⟩ = some (.int .i64 (q : Int)) := by simpa using hc1 0 _ rfl
      have e1 : w.cell? ⟨b1, o1 + j * 3 + 1, none⟩ = some (.int .i64 ((q + 1 : Nat) : Int)) := hc1 1 _ rfl
      have e2 : w.cell? ⟨b1, o1 + j * 3 + 2, none⟩ = some (.string (markT (q + 2))) := hc1 2 _ rfl
      rw [show ((q + 1 : Nat) : Int) = (q : Int) + 1 by omega] at e1
      obtain ⟨y2, hy2⟩ : ∃ y2, markT (q + 2) = y2 := ⟨_, rfl⟩
      have hm2 := fun w => markText_z (z := (q : Int) + 1 + 1) (k := q + 2) (by omega) (by omega) (by omega) w
      rw [hy2] at e2 hm2
      have HM2 := Lib.hid hm2
      clear hm2 hy2
      have c0 : wr.cell? ⟨b1, o1 + j * 3, none⟩ = some (.int .i64 (q : Int)) := (hW.cell (p := ⟨b1, _, none⟩) l0).trans e0
      have c1 : wr.cell? ⟨b1, o1 + j * 3 + 1, none⟩ = some (.int .i64 ((q : Int) + 1)) := (hW.cell (p := ⟨b1, _, none⟩) l0).trans e1
      have c2 : wr.cell? ⟨b1, o1 + j * 3 + 2, none⟩ = some (.string y2) := (hW.cell (p := ⟨b1, _, none⟩) l0).trans e2
      have hj0 : (0 : Int) ≤ (j : Int) := by omega
      have hjn : (j : Int) < (n : Int) := by omega
      clear hc1
      go_wp2_with fail
      refine wp_region_held_drew (S := (fun w' => (∀ kb ko, kb < wr.heap.size → w'.cell? ⟨kb, ko, none⟩ = wr.cell? ⟨kb, ko, none⟩) ∧ wr.heap.size ≤ w'.heap.size ∧ Below wr.heap.size wr w')) (by kernel_rfl) ?_ (fun hHeld => ?_)
      · (try dsimp only); (first | exact SB.mk hkB | exact SB.mk ((Below.refl _ _).drew) | (go_split_ands; refine SB.mk (Below.drew ?_); assumption) | (refine SB.mk ?_; go_grown; done) | (go_split_ands; refine SB.mk ?_; go_grown; done))
      first | (refine take_on (i := 0) (v := ?_) rfl (by kernel_rfl) (by kernel_rfl) (by kernel_rfl) (fun _ _ _ h => h) rfl ?_ (by assumption) ?_; rotate_left; · (intro w' hSw; (try dsimp only at hSw); go_simp; (try with_reducible rfl))) | (refine take_off (i := 0) rfl (by kernel_rfl) (by kernel_rfl) (by kernel_rfl) (fun _ _ _ h => h) rfl (by assumption) ?_)
      (try simp only [Act.put, List.setIfInBounds_toArray, List.set_cons_zero, List.set_cons_succ])
      first | (refine take_on (i := 1) (v := ?_) rfl (by kernel_rfl) (by kernel_rfl) (by kernel_rfl) (fun _ _ _ h => h) rfl ?_ (by assumption) ?_; rotate_left; · (intro w' hSw; (try dsimp only at hSw); go_simp; (try with_reducible rfl))) | (refine take_off (i := 1) rfl (by kernel_rfl) (by kernel_rfl) (by kernel_rfl) (fun _ _ _ h => h) rfl (by assumption) ?_)
      (try simp only [Act.put, List.setIfInBounds_toArray, List.set_cons_zero, List.set_cons_succ])
      first | (refine take_on (i := 2) (v := ?_) rfl (by kernel_rfl) (by kernel_rfl) (by kernel_rfl) (fun _ _ _ h => h) rfl ?_ (by assumption) ?_; rotate_left; · (intro w' hSw; (try dsimp only at hSw); go_simp; (try with_reducible rfl))) | (refine take_off (i := 2) rfl (by kernel_rfl) (by kernel_rfl) (by kernel_rfl) (fun _ _ _ h => h) rfl (by assumption) ?_)
      (try simp only [Act.put, List.setIfInBounds_toArray, List.set_cons_zero, List.set_cons_succ])
      first | (refine take_on (i := 3) (v := ?_) rfl (by kernel_rfl) (by kernel_rfl) (by kernel_rfl) (fun _ _ _ h => h) rfl ?_ (by assumption) ?_; rotate_left; · (intro w' hSw; (try dsimp only at hSw); go_simp; (try with_reducible rfl))) | (refine take_off (i := 3) rfl (by kernel_rfl) (by kernel_rfl) (by kernel_rfl) (fun _ _ _ h => h) rfl (by assumption) ?_)
      (try simp only [Act.put, List.setIfInBounds_toArray, List.set_cons_zero, List.set_cons_succ])
      first | (refine take_on (i := 4) (v := ?_) rfl (by kernel_rfl) (by kernel_rfl) (by kernel_rfl) (fun _ _ _ h => h) rfl ?_ (by assumption) ?_; rotate_left; · (intro w' hSw; (try dsimp only at hSw); go_simp; (try with_reducible rfl))) | (refine take_off (i := 4) rfl (by kernel_rfl) (by kernel_rfl) (by kernel_rfl) (fun _ _ _ h => h) rfl (by assumption) ?_)
      (try simp only [Act.put, List.setIfInBounds_toArray, List.set_cons_zero, List.set_cons_succ])
      first | (refine take_on (i := 5) (v := ?_) rfl (by kernel_rfl) (by kernel_rfl) (by kernel_rfl) (fun _ _ _ h => h) rfl ?_ (by assumption) ?_; rotate_left; · (intro w' hSw; (try dsimp only at hSw); go_simp; (try with_reducible rfl))) | (refine take_off (i := 5) rfl (by kernel_rfl) (by kernel_rfl) (by kernel_rfl) (fun _ _ _ h => h) rfl (by assumption) ?_)
      (try simp only [Act.put, List.setIfInBounds_toArray, List.set_cons_zero, List.set_cons_succ])
      refine wpAnyH_ready (rs := [6]) (by kernel_rfl) (by simp) ?_
      refine AllReadyH.cons rfl (fun K hK => ?_) AllReadyH.nil
      rw [if_pos (by rfl)]
      go_simp
      first | (go_at_call 57; (with_reducible refine (HM2.out _).mono ?_); rintro e w' ⟨rfl, hb⟩; obtain ⟨_, hks, hkB⟩ := SB.next (by assumption) hb; obtain ⟨hkc, hkf⟩ := bcell hb; have hkz := hb.size; (try simp only [World.size_alloc, World.size_drew] at hkz); (first | (have hkt := Nat.lt_of_succ_le hkz) | (have hkt := Nat.lt_of_lt_of_le (by assumption) hkz) | skip); clear hb)
      refine hK.out _ _ ?_ (fun hHeld2 => ?_)
      · (try dsimp only); (first | exact SB.mk hkB | exact SB.mk ((Below.refl _ _).drew) | (go_split_ands; refine SB.mk (Below.drew ?_); assumption) | (refine SB.mk ?_; go_grown; done) | (go_split_ands; refine SB.mk ?_; go_grown; done))
      clear hK K hHeld; have hHeld := hHeld2; clear hHeld2; (try simp only [Act.put, List.setIfInBounds_toArray, List.set_cons_zero, List.set_cons_succ])
      first | (refine take_on (i := 7) (v := ?_) rfl (by kernel_rfl) (by kernel_rfl) (by kernel_rfl) (fun _ _ _ h => h) rfl ?_ (by assumption) ?_; rotate_left; · (intro w' hSw; (try dsimp only at hSw); go_simp; (try with_reducible rfl))) | (refine take_off (i := 7) rfl (by kernel_rfl) (by kernel_rfl) (by kernel_rfl) (fun _ _ _ h => h) rfl (by assumption) ?_)
      (try simp only [Act.put, List.setIfInBounds_toArray, List.set_cons_zero, List.set_cons_succ])
      refine wpAnyH_done (by kernel_rfl) ?_ _
      go_split_ands
      obtain ⟨w2, rfl⟩ : ∃ w2, w2 = w' := ⟨w', rfl⟩
      have hW2 : Below w.heap.size w w2 := Below.next hW (by assumption)
      have l2 : b1 < w2.heap.size := by have := hW2.size; omega
      go_wp2_with fail
      go_roundw
      case rel => exact ⟨j + 1, q + 3, by omega, by go_num, by go_num, by omega, by omega, by rw [Hid, ← hq.out]; omega, hW2⟩
      case measure => simp [intOf]; omega
    · obtain rfl : j = n := by omega
      go_wp2_with fail
      go_ret
      exact ⟨ret_int (by have := hq.out; omega), hW⟩
end Go.Proofs.Ytmdmjnhebbhjbaa
