/-
  Lists of points in memory: a stroke of the law becomes a stroke of the program; it is compared, marked, and held.
-/
import Derived.Test.YtnmmnikoogjhoaaMem
import Derived.Test.YtnmmnikoogjhoaaPoint
import Derived.Test.YtnmmnikoogjhoaaOpen
import Derived.Laws.OwnMore
namespace Go.Proofs.Ytnmmnikoogjhoaa
set_option linter.unusedSimpArgs false
set_option linter.unusedVariables false
set_option maxRecDepth 20000
open Go.RowKit
open Go.ChangeShapes Go.WideShapes Go.Deep Go.Joins

def ptC (p : Pt) : List Value := [.int .i64 p.x, .int .i64 p.y, .int .i64 p.t]
theorem ptC_len (p : Pt) : (ptC p).length = 3 := rfl
instance : Inhabited Pt := ⟨⟨0, 0, 0⟩⟩
theorem Rd.pt {w : World} {A : Option Addr} {n : Nat} {l : List Pt} (h : Rd w A n 3 (rowOf ptC l)) (hn : l.length = n) {k : Nat} (hk : k < l.length) :
    ∃ b off, A = some ⟨b, off, none⟩ ∧ b < w.heap.size ∧ w.cell? ⟨b, off + k * 3, none⟩ = some (.int .i64 l[k].x) ∧ w.cell? ⟨b, off + k * 3 + 1, none⟩ = some (.int .i64 l[k].y) ∧ w.cell? ⟨b, off + k * 3 + 2, none⟩ = some (.int .i64 l[k].t) := by
  obtain ⟨b, off, e, hlt, hc⟩ := h.at ptC_len hn hk
  exact ⟨b, off, e, hlt, hc 0 _ rfl, hc 1 _ rfl, hc 2 _ rfl⟩

/-- a row of one's own reads as a list -/
theorem Rd.own {w : World} {base t size n : Nat} {v : Value} {xs : List Value} (h : w.ownsRow base t size v n xs) : ∃ A c, v = .slice A n c ∧ n ≤ c ∧ c ≤ 9223372036854775807 ∧ Rd w A n size xs := by
  rcases h.2 with ⟨rfl, h0⟩ | ⟨g, cap, cur, rfl, _, hg, hc, hm, hs, htk⟩
  · subst h0
    exact ⟨none, 0, rfl, Nat.le_refl _, by omega, h.1, fun hn => absurd hn (by omega)⟩
  · refine ⟨_, _, rfl, hc, by unfold maxLen at hm; omega, h.1, fun _ => ⟨g, 0, rfl, (Array.getElem?_eq_some_iff.1 hg).1, fun j u hu => ?_⟩⟩
    rw [Nat.zero_add, cell_of_row w g j cur t (0, 0) hg]
    rw [← htk, List.getElem?_take] at hu
    split at hu
    · simpa using hu
    · cases hu
theorem Bk.owns {w : World} {g base t size n : Nat} {xs : List Value} (h : Bk w g t xs.toArray) (hl : xs.length = n * size) (hm : n ≤ maxLen) (hb : base ≤ g) : w.ownsRow base t size (.slice (some ⟨g, 0, none⟩) n n) n xs :=
  ⟨hl, .inr ⟨g, n, xs.toArray, rfl, hb, h, Nat.le_refl _, hm, by simpa using hl, List.take_of_length_le (by simp [hl])⟩⟩
theorem own_below2 {w w' : World} {base t size n : Nat} {v : Value} {xs : List Value} (h : w.ownsRow base t size v n xs) {B : Nat} (hb : Below B w w') (hB : ∀ k, v.ownBlock = some k → k < B) : w'.ownsRow base t size v n xs := by
  refine ⟨h.1, ?_⟩
  rcases h.2 with ⟨rfl, h0⟩ | ⟨g, cap, cur, rfl, hg, hg2, rest⟩
  · exact .inl ⟨rfl, h0⟩
  · exact .inr ⟨g, cap, cur, rfl, hg, (hb.block g (hB g rfl)).trans hg2, rest⟩
theorem own_next {w w' : World} {base t size n : Nat} {v : Value} {xs : List Value} (h : w.ownsRow base t size v n xs) (hb : Below w.heap.size w w') : w'.ownsRow base t size v n xs := own_below2 h hb (fun k hk => (h.lt k hk).2)

theorem Bk.other {w : World} {g : Nat} {t : TypeId} {cs : Array Value} (h : Bk w g t cs) {a : Addr} (ha : g ≠ a.block) (u : Value) : Bk (w.setCell a u) g t cs := (Below.heap_setCell w a u g ha).trans h

theorem point_info : (Try.prog.info? 72).map (fun i => (i.zero, i.size, i.bytes)) = some (some (.agg #[.int .i64 0, .int .i64 0, .int .i64 0]), 3, 24) := by kernel_rfl

set_option maxHeartbeats 2000000 in
theorem toPointS_any (A : Option Addr) (n c : Nat) (xs : List Pt) (w : World) (ha : Rd w A n 3 (rowOf ptC xs)) (la : xs.length = n) (hn : n ≤ 1048576) :
    Calls Try.prog 67 #[.slice A n c] w fun e w' => ∃ g, e = .returned (.slice (some ⟨g, 0, none⟩) n n) ∧ w.heap.size ≤ g ∧ Bk w' g 72 (rowOf ptC xs).toArray ∧ Below w.heap.size w w' := by
  obtain ⟨i0, hi0, hz0, hz1, hz2⟩ := info_parts point_info
  have hmk := make_rows (P := Try.prog) 50 72 i0 _ Try.underlying50 hi0 hz0 .i64 .i64 n (by rw [hz2]; omega) (by omega)
  rw [hz1] at hmk
  have HA := Lib.hid ha
  have LA := Lib.hid la
  clear ha la
  go_enter Try.func67, Try.ntmps67
  go_wp2_with fail
  go_loopw [4] (fun i wr => ∃ (k : Nat) (C : Array Value), k ≤ n ∧ i = .int .i64 k ∧ Hid (C.size = n * 3) ∧ Hid (Filled ptC C xs k) ∧ Bk wr w.heap.size 72 C ∧ Below w.heap.size w wr) (fun i _ => n - (intOf i).toNat)
  case atStart => exact ⟨0, _, Nat.zero_le _, rfl, size_madeCells _ _, Filled.zero _ _ _, heap_alloc_new w _, by go_grown⟩
  case round =>
    obtain ⟨k, C, hk, rfl, hC, hfill, hbk, hW⟩ := hrel
    by_cases hlt : k < n
    · have ka : k < xs.length := by have := LA.out; omega
      obtain ⟨b1, o1, rfl, _, c1, c2, c3⟩ := (HA.out.below hW).pt LA.out ka
      go_wp2_with fail
      refine (toPoint_any xs[k] _).mono ?_
      rintro e w2 ⟨rfl, hb2⟩
      have hbk2 := hbk.below hb2 hbk.lt
      have d1 := hbk2.cell (k * 3)
      have d2 := hbk2.cell (k * 3 + 1)
      have d3 := hbk2.cell (k * 3 + 2)
      rw [Array.getElem?_eq_getElem (by have := hC.out; omega)] at d1 d2 d3
      have f1 := hbk2.frozen (k * 3)
      have f2 := hbk2.frozen (k * 3 + 1)
      have f3 := hbk2.frozen (k * 3 + 2)
      go_wp2_with fail
      go_roundw
      case rel => exact ⟨k + 1, _, by omega, by go_num, by simpa [Hid] using hC.out, hfill.out.put3 ptC_len ka (by rw [LA.out]; exact hC.out) rfl, ((hbk2.put _ _).put _ _).put _ _, by have := hW.trans (hb2.mono (Nat.le_of_lt hbk.lt)); go_grown⟩
      case measure => simp [intOf]; omega
    · have e : C = (rowOf ptC xs).toArray := hfill.out.done ptC_len (by rw [LA.out]; omega) (by rw [LA.out]; exact hC.out)
      subst e
      go_wp2_with fail
      go_ret
      exact ⟨_, rfl, Nat.le_refl _, hbk, hW⟩

theorem toStroke_any (A : Option Addr) (n c : Nat) (xs : List Pt) (w : World) (ha : Rd w A n 3 (rowOf ptC xs)) (la : xs.length = n) (hn : n ≤ 1048576) :
    Calls Try.prog 31 #[.agg #[.slice A n c]] w fun e w' => ∃ g, e = .returned (.agg #[.slice (some ⟨g, 0, none⟩) n n]) ∧ w.heap.size ≤ g ∧ Bk w' g 72 (rowOf ptC xs).toArray ∧ Below w.heap.size w w' := by
  go_enter Try.func31, Try.ntmps31
  go_wp2_with fail
  refine (toPointS_any A n c xs _ (by first | exact ha | exact ha.alloc _ | exact (ha.alloc _).alloc _ | exact ((ha.alloc _).alloc _).alloc _) la hn).mono ?_
  rintro e w2 ⟨g, rfl, hg, hbk, hb⟩
  simp only [World.size_alloc] at hg
  obtain ⟨hc, hf⟩ := bcell hb
  have hz := hb.size
  simp only [World.size_alloc] at hz
  have hy0 : w.heap.size < w2.heap.size := by omega
  have hy1 : w.heap.size + 1 < w2.heap.size := by omega
  have hy2 : w.heap.size + 1 + 1 < w2.heap.size := by omega
  have hB : Below w.heap.size w w2 := Below.next (by go_grown) hb
  have c1 : w2.cell? ⟨w.heap.size + 1, 0, none⟩ = some (.slice none 0 0) := (hc _ _ (by simp)).trans (by go_simp)
  have c2 : w2.cell? ⟨w.heap.size + 1 + 1, 0, none⟩ = some (.slice none 0 0) := (hc _ _ (by simp)).trans (by go_simp)
  have f1 : w2.frozen? ⟨w.heap.size + 1, 0, none⟩ = false := (hf _ _ (by simp)).trans (by go_simp)
  have f2 : w2.frozen? ⟨w.heap.size + 1 + 1, 0, none⟩ = false := (hf _ _ (by simp)).trans (by go_simp)
  clear hc hf
  go_wp2_with fail
  refine bodyPost_ret (by simp [results, Try.results31, go_sem, *]; try rfl) rfl ?_
  exact ⟨g, rfl, by omega, (hbk.other (by simp only [ne_eq]; omega) _).other (by simp only [ne_eq]; omega) _, by go_grown⟩
end Go.Proofs.Ytnmmnikoogjhoaa
