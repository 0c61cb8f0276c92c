/-
  Reading a text: the program's lines, words and numbers.
-/
import Derived.Test.YtmdmjnhebbhjbaaGreatDoorReadDecI
import Derived.Test.YtmdmjnhebbhjbaaGreatDoorWords
import Derived.Test.YtmdmjnhebbhjbaaGreatDoorTxtPlain
namespace Go.Proofs.YtmdmjnhebbhjbaaGreatDoor
set_option linter.unusedSimpArgs false
set_option linter.unusedVariables false
set_option maxRecDepth 20000
open Go.RowKit
open Go.ChangeShapes Go.WideShapes Go.Deep Go.Joins

/-- the lines of a text, as texts -/
def linesB (s : ByteArray) : List ByteArray × Bool := match linesD s.data.toList with
  | none => ([], false)
  | some L => (L.map bs, true)
theorem linesB_nil {s : ByteArray} (h : s.data.toList = []) : linesB s = ([], true) := by unfold linesB linesD; rw [if_pos h]; rfl
theorem linesB_no {s : ByteArray} (h : ¬ s.data.toList = []) (h2 : ¬ s.data.toList.getLast? = some 10) : linesB s = ([], false) := by unfold linesB linesD; rw [if_neg h, if_neg h2]
theorem linesB_yes {s : ByteArray} (h : ¬ s.data.toList = []) (h2 : s.data.toList.getLast? = some 10) : linesB s = (splitBs 10 (bs s.data.toList.dropLast), true) := by
  unfold linesB linesD splitBs
  rw [if_neg h, if_pos h2]
  simp only [bs_list]
theorem suffix_nl (l : List UInt8) : Lib.hasSuffix l [10] = decide (l.getLast? = some 10) := by
  unfold Lib.hasSuffix
  rw [Bool.eq_iff_iff, decide_eq_true_eq, List.isSuffixOf_iff_suffix]
  constructor
  · rintro ⟨t, rfl⟩
    simp
  · intro h
    obtain ⟨a, b, rfl⟩ := snoc_of (l := l) (by rintro rfl; simp at h)
    have hb : b = 10 := by simpa using h
    exact ⟨a, by rw [hb]⟩
theorem trim_nl {l : List UInt8} (h : l.getLast? = some 10) : Lib.trimSuffix l [10] = l.dropLast := by
  unfold Lib.trimSuffix
  rw [suffix_nl, decide_eq_true h, if_pos rfl, List.dropLast_eq_take]
  rfl
theorem suffix_any (s : ByteArray) (b : Bool) (hs : s.size ≤ 1048576) (hb : Hid (decide (s.data.toList.getLast? = some 10) = b)) (w : World) :
    Calls Tryz.prog 55 #[.string s, .string ⟨#[10]⟩] w fun e w' => e = .returned (.bool b) ∧ w = w' := by
  refine (Tryz.strings_HasSuffix s ⟨#[10]⟩ w (by omega)).mono ?_
  rintro e w' ⟨rfl, rfl⟩
  exact ⟨by rw [← hb.out, ← suffix_nl], rfl⟩
theorem trimS_any (s t : ByteArray) (hs : s.size ≤ 1048576) (ht : Hid (bs s.data.toList.dropLast = t)) (h : Hid (s.data.toList.getLast? = some 10)) (w : World) :
    Calls Tryz.prog 57 #[.string s, .string ⟨#[10]⟩] w fun e w' => e = .returned (.string t) ∧ w = w' := by
  refine (Tryz.strings_TrimSuffix s ⟨#[10]⟩ w (by omega)).mono ?_
  rintro e w' ⟨rfl, rfl⟩
  exact ⟨by rw [← ht.out, ← trim_nl h.out]; rfl, rfl⟩
/-- texts in memory that read so -/
def RdT (w : World) (A : Option Addr) (n : Nat) (L : List ByteArray) : Prop := Rd w A n 1 (rowOf sC L)
theorem wordsOf_any (s : ByteArray) (n : Nat) (w : World) (hn : Hid ((splitBs 32 s).length = n)) (hs : s.size ≤ 1048576) (hm : MaxIs w) :
    Calls Tryz.prog 21 #[.string s] w fun e w' => ∃ g, e = .returned (.slice (some ⟨g, 0, none⟩) n n) ∧ w.heap.size ≤ g ∧ RdT w' (some ⟨g, 0, none⟩) n (splitBs 32 s) ∧ Below w.heap.size w w' := by
  have hc := split_any s 32 n w hn.out hs hm
  go_enter Tryz.func21, Tryz.ntmps21
  go_wp2_with fail
  refine hc.mono ?_
  rintro e w2 ⟨g, rfl, hg, hk2, hb2⟩
  have HR : Hid (RdT w2 (some ⟨g, 0, none⟩) n (splitBs 32 s)) := hk2.rd (by rw [rowOf_length sC_len, hn.out])
  clear hk2 hc
  go_wp2_with fail
  go_ret
  exact ⟨_, rfl, hg, HR.out, hb2⟩
set_option maxHeartbeats 1000000 in
theorem linesOf_any (s : ByteArray) (hs : s.size ≤ 1048576) (b : Bool) (L : List ByteArray) (n : Nat) (hL : Hid (linesB s = (L, b))) (hn : Hid (L.length = n)) (w : World) (hm : MaxIs w) :
    Calls Tryz.prog 19 #[.string s] w fun e w' => ∃ A c, e = .returned (.tuple #[.slice A n c, .bool b]) ∧ RdT w' A n L ∧ Below w.heap.size w w' := by
  have HM := Lib.hid hm
  clear hm
  by_cases h0 : s.data.toList = []
  · have h1 := hL.out
    rw [linesB_nil h0] at h1
    obtain ⟨e1, e2⟩ : [] = L ∧ true = b := by injection h1 with e1 e2; exact ⟨e1, e2⟩
    subst e1; subst e2
    obtain rfl : 0 = n := hn.out
    have hl0 : s.toList.isEmpty = true := by rw [List.isEmpty_iff, ByteArray.toList_eq]; exact h0
    clear h1 h0
    go_enter Tryz.func19, Tryz.ntmps19
    go_wp2_with fail
    refine bodyPost_ret (by simp [results, Tryz.results19, go_sem, *]; try rfl) rfl ?_
    exact ⟨none, 0, rfl, Rd.nil _ _ _, Below.refl _ _⟩
  · have hl0 : s.toList.isEmpty = false := by rw [List.isEmpty_eq_false_iff, ByteArray.toList_eq]; exact h0
    by_cases h2 : s.data.toList.getLast? = some 10
    · have h1 := hL.out
      rw [linesB_yes h0 h2] at h1
      obtain ⟨t, ht⟩ : ∃ t, bs s.data.toList.dropLast = t := ⟨_, rfl⟩
      rw [ht] at h1
      obtain ⟨e1, e2⟩ : splitBs 10 t = L ∧ true = b := by injection h1 with e1 e2; exact ⟨e1, e2⟩
      subst e2
      have HT := Lib.hid ht
      have HE := Lib.hid e1
      have H2 := Lib.hid h2
      have hb : Hid (decide (s.data.toList.getLast? = some 10) = true) := decide_eq_true h2
      have hts : t.size ≤ 1048576 := by
        rw [← ht, bs_size, List.length_dropLast]
        have : s.data.toList.length = s.size := Array.length_toList
        omega
      have HN : Hid ((splitBs 10 t).length = n) := by rw [Hid, e1]; exact hn.out
      clear h1 h0 h2 ht e1
      go_enter Tryz.func19, Tryz.ntmps19
      go_wp2_with (first | (go_at_call 55; refine (suffix_any s true hs hb _).mono ?_; rintro e w' ⟨rfl, rfl⟩) | (go_at_call 57; refine (trimS_any s t hs HT H2 _).mono ?_; rintro e w' ⟨rfl, rfl⟩))
      refine (split_any t 10 n _ HN.out hts HM.out).mono ?_
      rintro e w2 ⟨g, rfl, hg, hk2, hb2⟩
      have HR : Hid (RdT w2 (some ⟨g, 0, none⟩) n L) := by rw [Hid, ← HE.out]; exact hk2.rd (by rw [rowOf_length sC_len, HN.out])
      clear hk2
      go_wp2_with fail
      refine bodyPost_ret (by simp [results, Tryz.results19, go_sem, *]; try rfl) rfl ?_
      exact ⟨_, _, rfl, HR.out, hb2⟩
    · have h1 := hL.out
      rw [linesB_no h0 h2] at h1
      obtain ⟨e1, e2⟩ : [] = L ∧ false = b := by injection h1 with e1 e2; exact ⟨e1, e2⟩
      subst e1; subst e2
      obtain rfl : 0 = n := hn.out
      have hb : Hid (decide (s.data.toList.getLast? = some 10) = false) := decide_eq_false h2
      clear h1 h0 h2
      go_enter Tryz.func19, Tryz.ntmps19
      go_wp2_with (go_at_call 55; refine (suffix_any s false hs hb _).mono ?_; rintro e w' ⟨rfl, rfl⟩)
      refine bodyPost_ret (by simp [results, Tryz.results19, go_sem, *]; try rfl) rfl ?_
      exact ⟨none, 0, rfl, Rd.nil _ _ _, Below.refl _ _⟩
theorem RdT.below {w w' : World} {A : Option Addr} {n : Nat} {L : List ByteArray} (h : RdT w A n L) (hb : Below w.heap.size w w') : RdT w' A n L := Rd.below h hb
/-- the first numbers -/
def numsTo (L : List ByteArray) (k : Nat) : List Int := (L.take k).map fun x => (decR x.data.toList).1
theorem numsTo_len {L : List ByteArray} {k : Nat} (h : k ≤ L.length) : (numsTo L k).length = k := by simp [numsTo, h]
theorem numsTo_next {L : List ByteArray} {k : Nat} (h : k < L.length) : numsTo L (k + 1) = numsTo L k ++ [(decR L[k].data.toList).1] := by
  unfold numsTo
  rw [List.take_succ_eq_append_getElem h, List.map_append]
  rfl
theorem numsTo_all (s : ByteArray) : numsTo (splitBs 44 s) (splitBs 44 s).length = numsD s.data.toList := by
  unfold numsTo numsD splitBs
  rw [List.take_length, List.map_map]
  rfl
theorem split_size {c : UInt8} {s x : ByteArray} (h : x ∈ splitBs c s) : x.size ≤ s.size := by
  unfold splitBs at h
  obtain ⟨l, hl, rfl⟩ := List.mem_map.1 h
  have key : ∀ (m : List UInt8), ∀ l ∈ splitL c m, l.length ≤ m.length := by
    intro m
    induction m with
    | nil => intro l hl; simp [splitL] at hl; subst hl; simp
    | cons b m ih =>
      intro l hl
      obtain ⟨q, r, e⟩ : ∃ q r, splitL c m = q :: r := by
        cases h : splitL c m with
        | nil => exact absurd h (splitL_ne c m)
        | cons q r => exact ⟨q, r, rfl⟩
      rw [e] at ih
      by_cases hb : b = c
      · rw [splitL, if_pos hb, e] at hl
        rcases List.mem_cons.1 hl with rfl | hl
        · simp
        · have := ih l hl
          simp; omega
      · rw [splitL, if_neg hb, e] at hl
        rcases List.mem_cons.1 hl with rfl | hl
        · have := ih q (by simp)
          simp; omega
        · have := ih l (List.mem_cons_of_mem _ hl)
          simp; omega
  have := key _ l hl
  rw [bs_size]
  have h2 : s.data.toList.length = s.size := Array.length_toList
  omega
set_option maxHeartbeats 2000000 in
theorem numbersOf_any (s : ByteArray) (n : Nat) (R : List Int) (w : World) (hR : Hid (numsD s.data.toList = R)) (hn : Hid (R.length = n)) (hs : s.size ≤ 1048576) (hm : MaxIs w) (ht : Tab10 w) (he : ErrIs w) :
    Calls Tryz.prog 34 #[.string s] w fun e w' => ∃ A c, e = .returned (.slice A n c) ∧ Own iC 2 1 w' w.heap.size (.slice A n c) R ∧ Below w.heap.size w w' := by
  have hn0 : (splitBs 44 s).length = n := by
    have h1 := congrArg List.length hR.out
    rw [hn.out] at h1
    unfold numsD at h1
    unfold splitBs
    rw [List.length_map] at h1 ⊢
    exact h1
  have HN := Lib.hid hn0
  have HT := Lib.hid ht
  have HE := Lib.hid he
  have HM := Lib.hid hm
  have hnb : n ≤ 1048577 := by have := splitBs_len 44 s; omega
  clear hn0 ht he hm
  go_enter Tryz.func34, Tryz.ntmps34
  go_wp2_with fail
  refine (split_any s 44 n _ HN.out hs HM.out).mono ?_
  rintro e w2 ⟨gS, rfl, hgS, hk2, hb2⟩
  have HA : Hid (Rd w2 (some ⟨gS, 0, none⟩) n 1 (rowOf sC (splitBs 44 s))) := hk2.rd (by rw [rowOf_length sC_len, HN.out])
  have hT2 : Below w.heap.size w w2 := hb2
  have hz2 := hb2.size
  clear hb2 hk2
  go_wp2_with fail
  go_loopw [3, 11] (fun v i wr => ∃ k : Nat, k ≤ n ∧ i = .int .i64 (k : Int) ∧ Own iC 2 1 wr w2.heap.size v (numsTo (splitBs 44 s) k) ∧ Below w2.heap.size w2 wr) (fun _ i _ => n - (intOf i).toNat)
  case atStart => exact ⟨0, Nat.zero_le _, rfl, Own.nil _ _ _ _ _, Below.refl _ _⟩
  case round =>
    obtain ⟨k, hk, rfl, hown, hB2⟩ := hrel
    have hBs := hB2.size
    have hB : Below w.heap.size w wr := Below.next hT2 hB2
    have HO := Lib.hid hown
    have HV : Hid (∀ b, u3.ownBlock = some b → w2.heap.size ≤ b) := fun b hb => (hown.lt b hb).1
    clear hown
    by_cases hlt : k < n
    · have ka : k < (splitBs 44 s).length := by rw [HN.out]; exact hlt
      obtain ⟨b1, o1, e1, l1, hc1⟩ := (HA.out.below hB2).at sC_len HN.out ka
      obtain ⟨x, hx⟩ : ∃ x, (splitBs 44 s)[k] = x := ⟨_, rfl⟩
      have hxs : x.size ≤ 1048576 := by
        have h1 := split_size (List.getElem_mem ka)
        rw [hx] at h1
        omega
      rw [hx] at hc1
      have a1 : wr.cell? ⟨b1, o1 + k, none⟩ = some (.string x) := by simpa using hc1 0 _ rfl
      have hnx := numsTo_next ka
      rw [hx] at hnx
      obtain ⟨⟨z, zb⟩, hz⟩ : ∃ r, decR x.data.toList = r := ⟨_, rfl⟩
      rw [hz] at hnx
      have HNX := Lib.hid hnx
      have HZ := Lib.hid hz
      have hk0 : (0 : Int) ≤ (k : Int) := by omega
      have hkn : (k : Int) < (n : Int) := by omega
      have hwl : Hid ((numsTo (splitBs 44 s) k).length = k) := numsTo_len (by omega)
      clear hc1 hx hnx hz
      injection e1 with e1
      injection e1 with e1 e2
      subst e1; subst e2
      simp only [Nat.zero_add] at a1
      go_wp2_with fail
      have hcd := iReadDecimal_any x hxs wr (HT.out.below hB) (HE.out.below hB)
      rw [HZ.out] at hcd
      refine hcd.mono ?_
      rintro e w3 ⟨rfl, hb3⟩
      unfold decV
      have hB3 := Below.next hB2 hb3
      have hB3s := hB3.size
      have HO3 := Lib.hid (HO.out.next hb3)
      clear hb3 hcd
      go_wp2_with ((at_builtin; refine list_push elem_int (by rfl) (.tmp 20) (.tmp 22) 58 (by rfl) Tryz.underlying58 w2.heap.size _ (numsTo (splitBs 44 s) k) z (by rfl) (HO3.out.alloc _) k hwl.out w3.heap.size 1 (by rfl) (fun i u hu => ((Bk.new w3 #[.int .i64 z] 2).cell i).trans (by simpa [iC] using hu)) (by unfold maxLen; omega) (by omega) (by simp only [World.size_alloc]; omega) ?_; intro g5 cap5 w5 hown5 hgrow5 hat5 hlt5 hkeep5; have HO5 := Lib.hid hown5; have HG5 := Lib.hid hgrow5; clear hown5 hgrow5 hat5 hkeep5))
      go_roundw
      case rel => exact ⟨k + 1, by omega, by go_num, by rw [HNX.out]; exact HO5.out, (hB3.alloc hB3s _).grown HG5.out (by simp only [World.size_alloc]; omega) HV.out⟩
      case measure => (simp [intOf]; try omega)
    · obtain rfl : k = n := by omega
      have hall : Hid (numsTo (splitBs 44 s) k = R) := by rw [Hid, ← hR.out, ← numsTo_all, HN.out]
      obtain ⟨A2, c2, hv, _, _, _⟩ := HO.out.rd
      have hwl : (numsTo (splitBs 44 s) k).length = k := numsTo_len (by rw [HN.out]; exact Nat.le_refl _)
      rw [hwl] at hv
      subst hv
      go_wp2_with fail
      refine bodyPost_ret (by simp [results, Tryz.results34, go_sem, *]; try rfl) rfl ?_
      have h9 := HO.out
      rw [hall.out] at h9
      exact ⟨A2, c2, rfl, h9.mono hz2, hB⟩
end Go.Proofs.YtmdmjnhebbhjbaaGreatDoor
