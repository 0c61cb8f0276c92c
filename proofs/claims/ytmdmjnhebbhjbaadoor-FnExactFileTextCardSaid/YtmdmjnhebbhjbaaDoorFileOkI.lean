/-
  The program's test of a file.
-/
import Derived.Test.YtmdmjnhebbhjbaaDoorFileB
import Derived.Test.YtmdmjnhebbhjbaaDoorFilea
namespace Go.Proofs.YtmdmjnhebbhjbaaDoor
set_option linter.unusedSimpArgs false
set_option linter.unusedVariables false
set_option maxRecDepth 20000
open Go.RowKit
open Go.ChangeShapes Go.WideShapes Go.Deep Go.Joins

theorem iIsName_is {s : ByteArray} {v : Bool} (h : Hid (nameB s.data.toList = v)) (hs : s.size ≤ 1048576) (w : World) :
    Calls Tryd.prog 43 #[.string s] w fun e w' => e = .returned (.bool v) ∧ Below w.heap.size w w' := by rw [← h.out]; exact iIsName s w hs
theorem within_v {n low high : Int} {b : Bool} (h : Hid (inB n low high = b)) (w : World) :
    Calls Tryd.prog 55 #[.int .i64 n, .int .i64 low, .int .i64 high] w fun e w' => e = .returned (.bool b) ∧ w = w' := by
  rw [← h.out]; exact within_any n low high w
theorem hasN_any {c : Ch} {s : ByteArray} {b : Nat} {v : Bool} {w : World} (h : w.cell? ⟨b, 0, none⟩ = some (.string s)) (hb : b < w.heap.size) (hv : Hid (hasName s c = v)) :
    Calls Tryd.prog 57 #[.agg #[.string c.name, .string c.unit, .int .i64 c.low, .int .i64 c.high], .pointer (some ⟨b, 0, none⟩)] w fun e w' => e = .returned (.bool v) ∧ Below w.heap.size w w' := by
  have h1 : (c.name.toList == s.toList) = v := hv.out
  have h2 : (w.alloc (.cells #[.string c.name, .string c.unit, .int .i64 c.low, .int .i64 c.high] 52)).cell? ⟨b, 0, none⟩ = some (.string s) := (Below.cell ((Below.refl w.heap.size w).alloc (Nat.le_refl _) _) (p := ⟨b, 0, none⟩) hb).trans h
  clear h
  go_enter Tryd.func57, Tryd.ntmps57
  go_wp2_with fail
  refine bodyPost_ret (by simp [results, Tryd.results57, go_sem, *]; try rfl) rfl ?_
  exact ⟨rfl, by go_grown⟩
set_option maxHeartbeats 4000000 in
theorem indexFunc_any (A : Option Addr) (n c : Nat) (cs : List Ch) (s : ByteArray) (b : Nat) (z : Int) (w : World) (ha : Rd w A n 4 (rowOf chC cs)) (la : cs.length = n) (hn : n ≤ 1048576) (h : w.cell? ⟨b, 0, none⟩ = some (.string s)) (hb : b < w.heap.size) (hz : Hid (idxZ cs s = z)) :
    Calls Tryd.prog 56 #[.slice A n c, .func (.func 57) #[] #[.pointer (some ⟨b, 0, none⟩)]] w fun e w' => e = .returned (.int .i64 z) ∧ Below w.heap.size w w' := by
  have HA := Lib.hid ha
  have LA := Lib.hid la
  have HC := Lib.hid h
  clear ha la h
  go_enter Tryd.func56, Tryd.ntmps56
  go_wp2_with fail
  go_loopw [8] (fun i wr => ∃ k : Nat, k ≤ n ∧ i = .int .i64 (k : Int) ∧ Hid (k ≤ idxC cs s) ∧ Below w.heap.size w wr) (fun i _ => n - (intOf i).toNat)
  case atStart => exact ⟨0, Nat.zero_le _, rfl, Nat.zero_le _, Below.refl _ _⟩
  case round =>
    obtain ⟨k, hk, rfl, hlow, hW⟩ := hrel
    have hWs := hW.size
    by_cases hlt : k < n
    · have ka : k < cs.length := by have := LA.out; omega
      obtain ⟨b1, o1, rfl, l1, c0⟩ := (HA.out.below hW).at chC_len LA.out ka
      have c1 : wr.cell? ⟨b1, o1 + k * 4, none⟩ = some (.string cs[k].name) := c0 0 _ rfl
      have c2 : wr.cell? ⟨b1, o1 + k * 4 + 1, none⟩ = some (.string cs[k].unit) := c0 1 _ rfl
      have c3 : wr.cell? ⟨b1, o1 + k * 4 + 2, none⟩ = some (.int .i64 cs[k].low) := c0 2 _ rfl
      have c4 : wr.cell? ⟨b1, o1 + k * 4 + 3, none⟩ = some (.int .i64 cs[k].high) := c0 3 _ rfl
      have HB : Hid (wr.cell? ⟨b, 0, none⟩ = some (.string s)) := (hW.cell (p := ⟨b, 0, none⟩) hb).trans HC.out
      have hbr : b < wr.heap.size := by omega
      have hk0 : (0 : Int) ≤ (k : Int) := by omega
      have hkn : (k : Int) < (n : Int) := by omega
      clear c0
      cases hv : hasName s cs[k]
      · have HN : Hid (k + 1 ≤ idxC cs s) := idxC_step hlow.out ka hv
        have HV := Lib.hid hv
        clear hv
        go_wp2_with fail
        refine (hasN_any HB.out hbr HV).mono ?_
        rintro e w2 ⟨rfl, hb2⟩
        have hW2 := Below.next hW hb2
        clear hb2
        go_wp2_with fail
        go_roundw
        case rel => exact ⟨k + 1, by omega, by go_num, HN, hW2⟩
        case measure => simp [intOf]; omega
      · have HN : Hid (idxZ cs s = (k : Int)) := idxZ_hit hlow.out ka hv
        have HV := Lib.hid hv
        clear hv
        go_wp2_with fail
        refine (hasN_any HB.out hbr HV).mono ?_
        rintro e w2 ⟨rfl, hb2⟩
        have hW2 := Below.next hW hb2
        clear hb2
        go_wp2_with fail
        go_ret
        exact ⟨ret_int (by rw [← hz.out, HN.out]), hW2⟩
    · go_wp2_with fail
      go_ret
      refine ⟨ret_int ?_, hW⟩
      rw [← hz.out, idxZ_none]
      have := hlow.out
      have := LA.out
      omega
theorem indexOf_any (A : Option Addr) (n c : Nat) (cs : List Ch) (s : ByteArray) (z : Int) (w : World) (ha : Rd w A n 4 (rowOf chC cs)) (la : cs.length = n) (hn : n ≤ 1048576) (hz : Hid (idxZ cs s = z)) :
    Calls Tryd.prog 40 #[.slice A n c, .string s] w fun e w' => e = .returned (.int .i64 z) ∧ Below w.heap.size w w' := by
  have HA := Lib.hid (ha.alloc (.cells #[.string s] 9))
  clear ha
  go_enter Tryd.func40, Tryd.ntmps40
  go_wp2_with fail
  refine (indexFunc_any A n c cs s w.heap.size z _ HA.out la hn (by go_simp) (by simp) hz).mono ?_
  rintro e w2 ⟨rfl, hb⟩
  have hB : Below w.heap.size w w2 := Below.next (by go_grown) hb
  clear hb HA
  go_wp2_with fail
  go_ret
  exact ⟨rfl, hB⟩
end Go.Proofs.YtmdmjnhebbhjbaaDoor
