/-
  Lists of integers: an argument opened; a list of the law becomes one of the program.
-/
import Derived.Test.YtmdmjnhebbhjbaaOpen
import Derived.Test.YtmdmjnhebbhjbaaKda
namespace Go.Proofs.Ytmdmjnhebbhjbaa
set_option linter.unusedSimpArgs false
set_option linter.unusedVariables false
set_option maxRecDepth 20000
open Go.RowKit
open Go.ChangeShapes Go.WideShapes Go.ChangeAt Go.Deep Go.Joins

instance : Inhabited Int := ⟨0⟩
structure Li where
  A : Option Addr
  c : Nat
  l : List Int
def Li.good (w : World) (s : Li) : Prop := s.l.length ≤ s.c ∧ s.c ≤ 9223372036854775807 ∧ Rd w s.A s.l.length 1 (rowOf iC s.l)
theorem open_ints_arg {H : Type} {enc : TypeId × Value → H} {W : World} {base : Nat} {v : Value} {d : DataW H} {p : List MemPlace}
    (hv : Value.okWide Try.prog W .any base 78 v) (h : DataW.Trod enc Try.prog W 0 (fun _ => true) true 78 v d p) :
    ∃ s : Li, v = .slice s.A s.l.length s.c ∧ s.good W := by
  obtain ⟨a, n, c0, rfl⟩ := okWide_slice Try.underlying78 hv
  obtain ⟨fuel, h⟩ := h
  obtain ⟨A, c', l, e, h1, h2, h3, _⟩ := open_list (α := Int) (f := iC) (size := 1) (fun _ => True) (by omega) Try.underlying78 (by kernel_rfl) iC_len (fun cs' n y hl ht => by
    match cs', hl with
    | [v0], _ =>
      obtain ⟨a, ha, _, wa⟩ := DataW.trod_int Try.underlying2 ht
      simp at ha
      subst ha
      exact ⟨a, rfl, trivial⟩) h
  simp only [Value.cells, List.cons.injEq, Value.slice.injEq, and_true] at e
  obtain ⟨rfl, rfl, rfl⟩ := e
  exact ⟨⟨_, _, l⟩, rfl, h1, h2, h3⟩
theorem int_info : (Try.prog.info? 2).map (fun i => (i.zero, i.size, i.bytes)) = some (some (.int .i64 0), 1, 8) := by kernel_rfl

set_option maxHeartbeats 2000000 in
theorem toInt64S_any (A : Option Addr) (n c : Nat) (xs : List Int) (w : World) (ha : Rd w A n 1 (rowOf iC xs)) (la : xs.length = n) (hn : n ≤ 1048576) :
    Calls Try.prog 70 #[.slice A n c] w fun e w' => ∃ g, e = .returned (.slice (some ⟨g, 0, none⟩) n n) ∧ w.heap.size ≤ g ∧ Bk w' g 2 (rowOf iC xs).toArray ∧ Below w.heap.size w w' := by
  obtain ⟨i0, hi0, hz0, hz1, hz2⟩ := info_parts int_info
  have hmk := make_rows (P := Try.prog) 78 2 i0 _ Try.underlying78 hi0 hz0 .i64 .i64 n (by rw [hz2]; omega) (by omega)
  rw [hz1] at hmk
  have HA := Lib.hid ha
  have LA := Lib.hid la
  clear ha la
  go_enter Try.func70, Try.ntmps70
  go_wp2_with fail
  go_loopw [4] (fun i wr => ∃ (k : Nat) (C : Array Value), k ≤ n ∧ i = .int .i64 k ∧ Hid (C.size = n * 1) ∧ Hid (Filled iC C xs k) ∧ Bk wr w.heap.size 2 C ∧ Below w.heap.size w wr) (fun i _ => n - (intOf i).toNat)
  case atStart => exact ⟨0, _, Nat.zero_le _, rfl, (by rw [Hid, size_madeCells]; simp), Filled.zero _ _ _, heap_alloc_new w _, by go_grown⟩
  case round =>
    obtain ⟨k, C, hk, rfl, hC, hfill, hbk, hW⟩ := hrel
    by_cases hlt : k < n
    · have ka : k < xs.length := by have := LA.out; omega
      obtain ⟨b1, o1, rfl, l1, hc1⟩ := (HA.out.below hW).at iC_len LA.out ka
      have c1 : wr.cell? ⟨b1, o1 + k, none⟩ = some (.int .i64 xs[k]) := by simpa using hc1 0 _ rfl
      have hkC : k < C.size := by have := hC.out; omega
      have hgl := hbk.lt
      have d1 := hbk.cell k
      rw [Array.getElem?_eq_getElem hkC] at d1
      have f1 := hbk.frozen k
      have hf2 : Hid (Filled iC (C.setIfInBounds k (.int .i64 xs[k])) xs (k + 1)) := hfill.out.set1 iC_len ka (by have := hC.out; have := LA.out; omega) rfl
      clear hc1
      go_wp2_with fail
      go_roundw
      case rel => exact ⟨k + 1, _, by omega, by go_num, by simpa [Hid] using hC.out, hf2, hbk.put _ _, by go_grown⟩
      case measure => simp [intOf]; omega
    · have e : C = (rowOf iC xs).toArray := hfill.out.done iC_len (by rw [LA.out]; omega) (by rw [LA.out]; exact hC.out)
      subst e
      go_wp2_with fail
      go_ret
      exact ⟨_, rfl, Nat.le_refl _, hbk, hW⟩
end Go.Proofs.Ytmdmjnhebbhjbaa
