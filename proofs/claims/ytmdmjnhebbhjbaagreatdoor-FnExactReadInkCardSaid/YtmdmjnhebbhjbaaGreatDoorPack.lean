/-
  Bits as bytes: program and reference pack the same.
-/
import Derived.Test.YtmdmjnhebbhjbaaGreatDoorReadRice
import Derived.Test.YtmdmjnhebbhjbaaGreatDoorStra
import Derived.Test.YtmdmjnhebbhjbaaGreatDoorKda
import Derived.Lib.OthersKept
namespace Go.Proofs.YtmdmjnhebbhjbaaGreatDoor
set_option linter.unusedSimpArgs false
set_option linter.unusedVariables false
set_option maxRecDepth 20000
open Go.RowKit
open Go.ChangeShapes Go.WideShapes Go.Deep Go.Joins

def orB (b : UInt8) (r : Nat) : UInt8 := UInt8.ofNat (bits .or .u8 (b.toNat : Int) (128 / 2 ^ r)).toNat
theorem orB_fin : ∀ (a : Fin 256) (r : Fin 8), 0 ≤ bits BinOp.or IntKind.u8 (a.val : Int) (128 / 2 ^ r.val) ∧ bits BinOp.or IntKind.u8 (a.val : Int) (128 / 2 ^ r.val) < 256 := by decide +kernel
theorem orB_is (b : UInt8) (r : Nat) (hr : r < 8) : bits .or .u8 (b.toNat : Int) (128 / 2 ^ r) = ((orB b r).toNat : Int) := by
  obtain ⟨h0, h1⟩ := orB_fin ⟨b.toNat, b.toNat_lt⟩ ⟨r, hr⟩
  simp only at h0 h1
  unfold orB
  rw [UInt8.toNat_ofNat']
  omega
/-- the bytes behind k bits -/
def packTo (s : ByteArray) : Nat → List UInt8
  | 0 => List.replicate ((s.size + 7) / 8) 0
  | k + 1 => if s.data.toList[k]? = some 49 then (packTo s k).set (k / 8) (orB ((packTo s k).getD (k / 8) 0) (k % 8)) else packTo s k
theorem packTo_len (s : ByteArray) (k : Nat) : (packTo s k).length = (s.size + 7) / 8 := by
  induction k with
  | zero => rw [packTo, List.length_replicate]
  | succ k ih => rw [packTo]; split <;> simp [ih]
theorem at_list {s : ByteArray} {k : Nat} (h : k < s.size) : s.data.toList[k]? = some s[k] := by
  rw [Array.getElem?_toList, Array.getElem?_eq_getElem h]; rfl
theorem packTo_one {s : ByteArray} {k j r : Nat} {b : UInt8} {l : List UInt8} (h : k < s.size) (h1 : s[k] = 49) (hl : packTo s k = l) (hj : k / 8 = j) (hr : k % 8 = r) (hb : l[j]? = some b) : packTo s (k + 1) = l.set j (orB b r) := by
  rw [packTo, at_list h, h1, if_pos rfl, hl, hj, hr, List.getD_eq_getElem?_getD, hb]; rfl
theorem packTo_zero {s : ByteArray} {k : Nat} (h : k < s.size) (h1 : ¬ s[k] = 49) : packTo s (k + 1) = packTo s k := by
  rw [packTo, at_list h, if_neg (by simpa using h1)]
theorem cells_made (n : Nat) : madeCells (Value.int .u8 0).cells (n * 1) = (byteRow (List.replicate n 0)).toArray := by
  rw [Nat.mul_one]
  apply Array.ext'
  rw [List.toList_toArray]
  simp [madeCells, Value.cells, byteRow, Nat.mod_one]
  rw [List.map_const', List.length_range]
theorem row_set (l : List UInt8) (j : Nat) (b : UInt8) : (byteRow l).toArray.setIfInBounds j (.int .u8 (b.toNat : Int)) = (byteRow (l.set j b)).toArray := by
  apply Array.ext'
  rw [Array.toList_setIfInBounds]
  simp [byteRow, List.map_set]
theorem row_at {l : List UInt8} {j : Nat} {b : UInt8} (h : l[j]? = some b) : (byteRow l).toArray[j]? = some (.int .u8 (b.toNat : Int)) := by
  simp [byteRow, h]
theorem string_of_bk {w : World} {g n : Nat} {l : List UInt8} (h : Bk w g 5 (byteRow l).toArray) (hn : l.length = n) :
    (convert 101 9 (.slice (some ⟨g, 0, none⟩) n n)).run Tryz.prog w = .ok (.string ⟨l.toArray⟩) w := by
  subst hn
  refine run_convert_bytes_back w _ _ 5 _ _ l Tryz.underlying101 Tryz.underlying5 Tryz.underlying9 fun j hj => ?_
  have h1 := h.cell j
  rw [row_at (List.getElem?_eq_getElem hj)] at h1
  rw [show (⟨g, 0, none⟩ : Addr).add j = ⟨g, j, none⟩ by simp [Addr.add]; omega]
  simpa using h1
set_option maxHeartbeats 2000000 in
theorem l04Pack_any (s : ByteArray) (hs : s.size ≤ 1048576) (w : World) :
    Calls Tryz.prog 89 #[.string s] w fun e w' => e = .returned (.string ⟨(packTo s s.size).toArray⟩) ∧ Below w.heap.size w w' := by
  obtain ⟨i0, hi0, hz0, hz1, hz2⟩ := info_parts byte_info
  obtain ⟨n, hn⟩ : ∃ n, (s.size + 7) / 8 = n := ⟨_, rfl⟩
  have hmk := make_rows (P := Tryz.prog) 101 5 i0 _ Tryz.underlying101 hi0 hz0 .i64 .i64 n (by rw [hz2]; omega) (by omega)
  rw [hz1, cells_made] at hmk
  have hdi : ((s.size : Int) + 7) / 8 = (n : Int) := by omega
  have HN := Lib.hid hn
  clear hn
  go_enter Tryz.func89, Tryz.ntmps89
  go_wp2_with fail
  go_loopw [4] (fun i wr => ∃ (k : Nat) (l : List UInt8), k ≤ s.size ∧ i = .int .i64 (k : Int) ∧ Hid (packTo s k = l) ∧ Bk wr w.heap.size 5 (byteRow l).toArray ∧ Below w.heap.size w wr) (fun i _ => s.size - (intOf i).toNat)
  case atStart => exact ⟨0, List.replicate n 0, Nat.zero_le _, rfl, by rw [Hid, packTo, HN.out], heap_alloc_new w _, by go_grown⟩
  case round =>
    obtain ⟨k, l, hk, rfl, hl, hbk, hW⟩ := hrel
    have HB := Lib.hid hbk
    have hgl := hbk.lt
    clear hbk
    by_cases hlt : k < s.size
    · by_cases hone : s[k] = 49
      · obtain ⟨j, hj⟩ : ∃ j, k / 8 = j := ⟨_, rfl⟩
        obtain ⟨r, hr⟩ : ∃ r, k % 8 = r := ⟨_, rfl⟩
        have hll : l.length = n := by rw [← hl.out, packTo_len, HN.out]
        have hjn : j < n := by have := HN.out; omega
        obtain ⟨b, hb⟩ : ∃ b, l[j]? = some b := ⟨_, List.getElem?_eq_getElem (by omega)⟩
        have hnx := Lib.hid (packTo_one hlt hone hl.out hj hr hb)
        have c1 : wr.cell? ⟨w.heap.size, j, none⟩ = some (.int .u8 (b.toNat : Int)) := (HB.out.cell j).trans (row_at hb)
        have f1 := HB.out.frozen j
        have hji : (k : Int) / 8 = (j : Int) := by omega
        have hri : (k : Int) % 8 = (r : Int) := by omega
        have hr8 : r < 8 := by omega
        have hw0 : IntKind.u64.wrap (r : Int) = r := IntWalk.u64_in _ (by omega)
        have hor := orB_is b r hr8
        have ev : (s[k].toNat : Int) = 49 := by rw [hone]; rfl
        have HX := Lib.hid (row_set l j (orB b r))
        obtain ⟨x, hx⟩ : ∃ x, (orB b r) = x := ⟨_, rfl⟩
        rw [hx] at hor hnx HX
        clear hone hj hr hb hx hll
        go_wp2_with fail
        go_roundw
        case rel => exact ⟨k + 1, l.set j x, by omega, by go_num, hnx, by rw [← HX.out]; exact HB.out.put _ _, by go_grown⟩
        case measure => (simp [intOf]; try omega)
      · have ev : ((s[k].toNat : Int) == 49) = false := beq_eq_false_iff_ne.2 fun e => hone (by apply UInt8.toNat_inj.1; show _ = 49; omega)
        have hnx := Lib.hid ((packTo_zero hlt hone).trans hl.out)
        clear hone
        go_wp2_with fail
        go_roundw
        case rel => exact ⟨k + 1, l, by omega, by go_num, hnx, HB.out, hW⟩
        case measure => (simp [intOf]; try omega)
    · obtain rfl : k = s.size := by omega
      have hll : Hid (l.length = n) := by rw [Hid, ← hl.out, packTo_len, HN.out]
      have hcv := string_of_bk HB.out hll.out
      go_wp2_with fail
      go_ret
      exact ⟨ret_str (by rw [hl.out]), hW⟩
end Go.Proofs.YtmdmjnhebbhjbaaGreatDoor
