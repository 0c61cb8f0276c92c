/-
  Slices of texts: marked, held, compared; the text of a mark.
-/
import Derived.Test.YtgpmlpneffbbbaaDoorBytesO
import Derived.Test.YtgpmlpneffbbbaaDoorSplitPlain
namespace Go.Proofs.YtgpmlpneffbbbaaDoor
set_option linter.unusedSimpArgs false
set_option linter.unusedVariables false
set_option maxRecDepth 20000
open Go.RowKit
open Go.ChangeShapes Go.WideShapes Go.Deep Go.Joins

def bs (l : List UInt8) : ByteArray := ⟨l.toArray⟩
theorem bs_list (l : List UInt8) : (bs l).data.toList = l := by simp [bs]
theorem bs_of (s : ByteArray) : bs s.data.toList = s := rfl
theorem bs_append (a b : List UInt8) : bs a ++ bs b = bs (a ++ b) := by
  apply ByteArray.ext
  simp [bs]
theorem bs_size (l : List UInt8) : (bs l).size = l.length := by show l.toArray.size = _; simp
def sC (s : ByteArray) : List Value := [.string s]
theorem sC_len (s : ByteArray) : (sC s).length = 1 := rfl
theorem elem_str : Elem sC 9 1 16 where
  len _ := rfl
  one a u hu := by simp [sC] at hu; subst hu; rfl
  pos := by omega
  info := by
    have h : (Tryd.prog.info? 9).map (fun i => (i.zero, i.size, i.bytes)) = some (some (.string ⟨#[]⟩), 1, 16) := by kernel_rfl
    obtain ⟨i, h1, h2, h3, h4⟩ := info_parts h
    exact ⟨i, _, h1, h2, h3, h4, rfl⟩

/-- the text of the mark k -/
def markT (k : Nat) : ByteArray := bs (109 :: digs k)
set_option maxHeartbeats 4000000 in
theorem markText_any (k : Nat) (h0 : 0 < k) (hb : k ≤ 4294967296) (w : World) : Calls Tryd.prog 25 #[.int .i64 (k : Int)] w fun e w' => e = .returned (.string (markT k)) ∧ Below w.heap.size w w' := by
  have hk0 : ¬ (k : Int) ≤ 0 := by omega
  go_enter Tryd.func25, Tryd.ntmps25
  go_wp2_with fail
  go_loopw [0, 3] (fun kk v wr => ∃ (m : Nat) (l : List UInt8), m ≤ k ∧ kk = .int .i64 (m : Int) ∧ v = .string (bs l) ∧ Hid (digs m ++ l = digs k) ∧ l.length ≤ 20 ∧ Below w.heap.size w wr) (fun kk _ _ => (intOf kk).toNat)
  case atStart => exact ⟨k, [], Nat.le_refl _, rfl, rfl, by rw [Hid, List.append_nil], by simp, by go_grown⟩
  case round =>
    obtain ⟨m, l, hm, rfl, rfl, hdg, hl20, hB⟩ := hrel
    have hBs := hB.size
    have hsz := bs_size l
    by_cases h1 : 0 < m
    · have hdl : (digs m).length = (digs (m / 10)).length + 1 := by rw [digs_pos h1]; simp
      have hl19 : l.length ≤ 19 := by
        have h2 := digs_len 19 k (by omega)
        have h3 := congrArg List.length hdg.out
        rw [List.length_append, hdl] at h3
        omega
      have hX := dig_val m
      have hnext : Hid (digs (m / 10) ++ (UInt8.ofNat (48 + m % 10) :: l) = digs k) := by rw [Hid, ← hdg.out, digs_pos h1, List.append_assoc]; rfl
      obtain ⟨rr, hrr⟩ : ∃ rr, m % 10 = rr := ⟨_, rfl⟩
      obtain ⟨qq, hqq⟩ : ∃ qq, m / 10 = qq := ⟨_, rfl⟩
      have hr : ((m : Int)) % 10 = (rr : Int) := by omega
      have hq : ((m : Int)) / 10 = (qq : Int) := by omega
      rw [hrr] at hX hnext
      rw [hqq] at hnext
      have hr10 : rr < 10 := by omega
      have hqm : qq < m := by omega
      have hm0 : (0 : Int) < (m : Int) := by omega
      have hw8 : IntKind.u8.wrap (48 + (rr : Int)) = 48 + (rr : Int) := by rw [IntKind.wrap_u8]; omega
      obtain ⟨ch, hch⟩ : ∃ ch, UInt8.ofNat (48 + rr) = ch := ⟨_, rfl⟩
      rw [hch] at hX hnext
      have HE5 : Hid ((rowOf bC [ch]).toArray = #[Value.int .u8 (48 + (rr : Int))]) := by rw [Hid, ← hX]; rfl
      have hconv : (convert 41 9 (.slice (some ⟨wr.heap.size, 0, none⟩) 1 1)).run Tryd.prog (wr.alloc (.cells #[.int .u8 (48 + (rr : Int))] 5)) = .ok (.string (bs [ch])) (wr.alloc (.cells #[.int .u8 (48 + (rr : Int))] 5)) :=
        string_of_own (base := 0) (l := [ch]) (Own.of_bk (l := [ch]) (by rw [HE5.out]; exact Bk.new wr _ _) bC_len (by simp [maxLen]) (Nat.zero_le _))
      have hsz1 : (bs [ch]).size = 1 := rfl
      have happ := bs_append [ch] l
      clear hrr hqq hX hdl hch
      go_wp2_with fail
      go_roundw
      case rel => exact ⟨qq, ch :: l, by omega, by first | rfl | go_num, by first | rfl | rw [happ]; rfl, hnext, by simp; omega, by go_grown⟩
      case measure => (simp [intOf]; try omega)
    · obtain rfl : m = 0 := by omega
      have hEL : Hid (l = digs k) := by have := hdg.out; rw [digs_zero] at this; exact this
      have happ := bs_append [109] l
      have hsz1 : (bs [109]).size = 1 := rfl
      go_wp2_with fail
      go_ret
      exact ⟨ret_str (by unfold markT; rw [← hEL.out]; first | rfl | exact happ), hB⟩

def marksS (k n : Nat) : List ByteArray := (List.range n).map fun j => markT (k + j)
theorem marksS_len (k n : Nat) : (marksS k n).length = n := by simp [marksS]
theorem marksS_at (k n j : Nat) (h : j < (marksS k n).length) : (marksS k n)[j] = markT (k + j) := by simp [marksS]

set_option maxHeartbeats 4000000 in
theorem markStringS_any (base : Nat) (v : Value) (l : List ByteArray) (n k : Nat) (w : World) (h : Own sC 9 1 w base v l) (hl : l.length = n) (hn : n ≤ 2097152) (hk0 : 0 < k) (hk : k ≤ 2147483648) :
    Calls Tryd.prog 13 #[v, .int .i64 (k : Int)] w fun e w' => e = .returned (.int .i64 ((k + n : Nat) : Int)) ∧ Own sC 9 1 w' base v (marksS k n) ∧ w.grownBy w' v.ownBlock := by
  rcases h.cases with ⟨rfl, rfl⟩ | ⟨g, cap, C, rfl, hb, hbk, hc, hm, hs⟩
  · obtain rfl : n = 0 := by rw [← hl]; rfl
    go_enter Tryd.func13, Tryd.ntmps13
    go_wp2_with fail
    refine wp_loop_rounds 1 ?_
    rw [rounds_succ]
    go_wp2_with fail
    go_ret
    exact ⟨rfl, Own.nil _ _ _ _ _, grownBy_refl _ _⟩
  · rw [hl] at hc ⊢
    have HBK := Lib.hid hbk
    have HS := Lib.hid hs
    clear h hl hbk hs
    go_enter Tryd.func13, Tryd.ntmps13
    go_wp2_with fail
    go_loopw [1, 5] (fun kk i wr => ∃ (j q : Nat) (C' : Array Value), j ≤ n ∧ i = .int .i64 (j : Int) ∧ kk = .int .i64 (q : Int) ∧ q ≤ k + j ∧ 0 < q ∧ Hid (k + j = q) ∧ Hid (C'.size = cap * 1) ∧ Hid (Filled sC C' (marksS k n) j) ∧ Bk wr g 9 C' ∧ w.grownBy wr (some g)) (fun _ i _ => n - (intOf i).toNat)
    case atStart => exact ⟨0, k, C, by omega, rfl, rfl, by omega, hk0, rfl, HS.out, Filled.zero _ _ _, HBK.out, grownBy_refl _ _⟩
    case round =>
      obtain ⟨j, q, C', hj, rfl, rfl, hqb, hq0, hq, hC, hfill, hbk, hG⟩ := hrel
      by_cases hlt : j < n
      · have hjc : j < C'.size := by have := hC.out; omega
        have hmj : j < (marksS k n).length := by rw [marksS_len]; exact hlt
        have hfill2 : Hid (Filled sC (C'.setIfInBounds j (.string (markT q))) (marksS k n) (j + 1)) := hfill.out.set1 sC_len hmj (by rw [marksS_len]; have := hC.out; omega) (by rw [marksS_at, hq.out]; rfl)
        have HBK2 := Lib.hid hbk
        have hgl0 := hbk.lt
        clear hbk
        go_wp2_with fail
        refine (markText_any q hq0 (by omega) _).mono ?_
        rintro e w2 ⟨rfl, hb2⟩
        have hbk2 := HBK2.out.next hb2
        have hgl := hbk2.lt
        have d1 := hbk2.cell j
        rw [Array.getElem?_eq_getElem hjc] at d1
        have f1 := hbk2.frozen j
        have HB2 := Lib.hid hb2
        clear hb2
        go_wp2_with fail
        go_roundw
        case rel => exact ⟨j + 1, q + 1, _, by omega, by go_num, by go_num, by omega, by omega, by rw [Hid, ← hq.out]; omega, by simpa [Hid] using hC.out, hfill2, hbk2.put j _, grownBy_trans (grownBy_trans hG (grownBy_of_below HB2.out _)) (grownBy_setCell _ _ _ _)⟩
        case measure => simp [intOf]; omega
      · obtain rfl : j = n := by omega
        go_wp2_with fail
        go_ret
        have h2 := Own.of_filled (base := base) (l := marksS k j) sC_len hbk hC.out (by rw [marksS_len]; exact hc) hm hb (by rw [marksS_len]; exact hfill.out)
        rw [marksS_len] at h2
        exact ⟨ret_int (by have := hq.out; omega), h2, hG⟩

set_option maxHeartbeats 4000000 in
theorem heldStringS_any (A : Option Addr) (n c k : Nat) (w : World) (h : Rd w A n 1 (rowOf sC (marksS k n))) (hn : n ≤ 2097152) (hk0 : 0 < k) (hk : k ≤ 2147483648) :
    Calls Tryd.prog 14 #[.slice A n c, .int .i64 (k : Int)] w fun e w' => e = .returned (.int .i64 ((k + n : Nat) : Int)) ∧ Below w.heap.size w w' := by
  have HH := Lib.hid h
  clear h
  go_enter Tryd.func14, Tryd.ntmps14
  go_wp2_with fail
  go_loopw [1, 5] (fun kk i wr => ∃ (j q : Nat), j ≤ n ∧ i = .int .i64 (j : Int) ∧ kk = .int .i64 (q : Int) ∧ q ≤ k + j ∧ 0 < q ∧ Hid (k + j = q) ∧ Below w.heap.size w wr) (fun _ i _ => n - (intOf i).toNat)
  case atStart => exact ⟨0, k, by omega, rfl, rfl, by omega, hk0, rfl, Below.refl _ _⟩
  case round =>
    obtain ⟨j, q, hj, rfl, rfl, hqb, hq0, hq, hW⟩ := hrel
    have hWs := hW.size
    by_cases hlt : j < n
    · have hmj : j < (marksS k n).length := by rw [marksS_len]; exact hlt
      obtain ⟨b1, o1, rfl, l1, hc1⟩ := (HH.out.below hW).at sC_len (marksS_len k n) hmj
      have c1 : wr.cell? ⟨b1, o1 + j, none⟩ = some (.string (markT q)) := by
        have := hc1 0 _ rfl
        rw [marksS_at, hq.out] at this
        simpa using this
      have hj0 : (0 : Int) ≤ (j : Int) := by omega
      have hjn : (j : Int) < (n : Int) := by omega
      clear hc1
      go_wp2_with fail
      refine wp_region_held_drew (S := (fun w' => (∀ kb ko, kb < wr.heap.size → w'.cell? ⟨kb, ko, none⟩ = wr.cell? ⟨kb, ko, none⟩) ∧ wr.heap.size ≤ w'.heap.size ∧ Below wr.heap.size wr w')) (by kernel_rfl) ?_ (fun hHeld => ?_)
      · (try dsimp only); (first | exact SB.mk hkB | exact SB.mk ((Below.refl _ _).drew) | (go_split_ands; refine SB.mk (Below.drew ?_); assumption) | (refine SB.mk ?_; go_grown; done) | (go_split_ands; refine SB.mk ?_; go_grown; done))
      first | (refine take_on (i := 0) (v := ?_) rfl (by kernel_rfl) (by kernel_rfl) (by kernel_rfl) (fun _ _ _ h => h) rfl ?_ (by assumption) ?_; rotate_left; · (intro w' hSw; (try dsimp only at hSw); go_simp; (try with_reducible rfl))) | (refine take_off (i := 0) rfl (by kernel_rfl) (by kernel_rfl) (by kernel_rfl) (fun _ _ _ h => h) rfl (by assumption) ?_)
      (try simp only [Act.put, List.setIfInBounds_toArray, List.set_cons_zero, List.set_cons_succ])
      first | (refine take_on (i := 1) (v := ?_) rfl (by kernel_rfl) (by kernel_rfl) (by kernel_rfl) (fun _ _ _ h => h) rfl ?_ (by assumption) ?_; rotate_left; · (intro w' hSw; (try dsimp only at hSw); go_simp; (try with_reducible rfl))) | (refine take_off (i := 1) rfl (by kernel_rfl) (by kernel_rfl) (by kernel_rfl) (fun _ _ _ h => h) rfl (by assumption) ?_)
      (try simp only [Act.put, List.setIfInBounds_toArray, List.set_cons_zero, List.set_cons_succ])
      first | (refine take_on (i := 2) (v := ?_) rfl (by kernel_rfl) (by kernel_rfl) (by kernel_rfl) (fun _ _ _ h => h) rfl ?_ (by assumption) ?_; rotate_left; · (intro w' hSw; (try dsimp only at hSw); go_simp; (try with_reducible rfl))) | (refine take_off (i := 2) rfl (by kernel_rfl) (by kernel_rfl) (by kernel_rfl) (fun _ _ _ h => h) rfl (by assumption) ?_)
      (try simp only [Act.put, List.setIfInBounds_toArray, List.set_cons_zero, List.set_cons_succ])
      first | (refine take_on (i := 3) (v := ?_) rfl (by kernel_rfl) (by kernel_rfl) (by kernel_rfl) (fun _ _ _ h => h) rfl ?_ (by assumption) ?_; rotate_left; · (intro w' hSw; (try dsimp only at hSw); go_simp; (try with_reducible rfl))) | (refine take_off (i := 3) rfl (by kernel_rfl) (by kernel_rfl) (by kernel_rfl) (fun _ _ _ h => h) rfl (by assumption) ?_)
      (try simp only [Act.put, List.setIfInBounds_toArray, List.set_cons_zero, List.set_cons_succ])
      first | (refine take_on (i := 4) (v := ?_) rfl (by kernel_rfl) (by kernel_rfl) (by kernel_rfl) (fun _ _ _ h => h) rfl ?_ (by assumption) ?_; rotate_left; · (intro w' hSw; (try dsimp only at hSw); go_simp; (try with_reducible rfl))) | (refine take_off (i := 4) rfl (by kernel_rfl) (by kernel_rfl) (by kernel_rfl) (fun _ _ _ h => h) rfl (by assumption) ?_)
      (try simp only [Act.put, List.setIfInBounds_toArray, List.set_cons_zero, List.set_cons_succ])
      refine wpAnyH_ready (rs := [5]) (by kernel_rfl) (by simp) ?_
      refine AllReadyH.cons rfl (fun K hK => ?_) AllReadyH.nil
      rw [if_pos (by rfl)]
      go_simp
      first | (go_at_call 25; (with_reducible refine (markText_any q hq0 (by omega) _).mono ?_); rintro e w' ⟨rfl, hb⟩; obtain ⟨_, hks, hkB⟩ := SB.next (by assumption) hb; obtain ⟨hkc, hkf⟩ := bcell hb; have hkz := hb.size; (try simp only [World.size_alloc, World.size_drew] at hkz); (first | (have hkt := Nat.lt_of_succ_le hkz) | (have hkt := Nat.lt_of_lt_of_le (by assumption) hkz) | skip); clear hb)
      refine hK.out _ _ ?_ (fun hHeld2 => ?_)
      · (try dsimp only); (first | exact SB.mk hkB | exact SB.mk ((Below.refl _ _).drew) | (go_split_ands; refine SB.mk (Below.drew ?_); assumption) | (refine SB.mk ?_; go_grown; done) | (go_split_ands; refine SB.mk ?_; go_grown; done))
      clear hK K hHeld; have hHeld := hHeld2; clear hHeld2; (try simp only [Act.put, List.setIfInBounds_toArray, List.set_cons_zero, List.set_cons_succ])
      first | (refine take_on (i := 6) (v := ?_) rfl (by kernel_rfl) (by kernel_rfl) (by kernel_rfl) (fun _ _ _ h => h) rfl ?_ (by assumption) ?_; rotate_left; · (intro w' hSw; (try dsimp only at hSw); go_simp; (try with_reducible rfl))) | (refine take_off (i := 6) rfl (by kernel_rfl) (by kernel_rfl) (by kernel_rfl) (fun _ _ _ h => h) rfl (by assumption) ?_)
      (try simp only [Act.put, List.setIfInBounds_toArray, List.set_cons_zero, List.set_cons_succ])
      refine wpAnyH_done (by kernel_rfl) ?_ _
      go_split_ands
      go_wp2_with fail
      go_roundw
      case rel => exact ⟨j + 1, q + 1, by omega, by go_num, by go_num, by omega, by omega, by rw [Hid, ← hq.out]; omega, Below.next hW (by assumption)⟩
      case measure => simp [intOf]; omega
    · obtain rfl : j = n := by omega
      go_wp2_with fail
      go_ret
      exact ⟨ret_int (by have := hq.out; omega), hW⟩

set_option maxHeartbeats 4000000 in
theorem eqStringS_same (A B : Option Addr) (n c d : Nat) (l : List ByteArray) (w : World) (ha : Rd w A n 1 (rowOf sC l)) (hb : Rd w B n 1 (rowOf sC l)) (la : l.length = n) (hn : n ≤ 2097152) :
    Calls Tryd.prog 12 #[.slice A n c, .slice B n d] w fun e w' => e = .returned (.bool true) ∧ Below w.heap.size w w' := by
  have HA := Lib.hid ha
  have HD := Lib.hid hb
  have LA := Lib.hid la
  clear ha hb la
  go_enter Tryd.func12, Tryd.ntmps12
  go_wp2_with fail
  go_loopw [5] (fun i wr => ∃ k : Nat, k ≤ n ∧ i = .int .i64 k ∧ Below w.heap.size w wr) (fun i _ => n - (intOf i).toNat)
  case atStart => exact ⟨0, Nat.zero_le _, rfl, Below.refl _ _⟩
  case round =>
    obtain ⟨k, hk, rfl, hW⟩ := hrel
    have hWs := hW.size
    by_cases hlt : k < n
    · have ka : k < l.length := by have := LA.out; omega
      obtain ⟨b1, o1, rfl, l1, hc1⟩ := (HA.out.below hW).at sC_len LA.out ka
      obtain ⟨b2, o2, rfl, l2, hc2⟩ := (HD.out.below hW).at sC_len LA.out ka
      obtain ⟨x, hx⟩ : ∃ x, l[k] = x := ⟨_, rfl⟩
      rw [hx] at hc1 hc2
      have a1 : wr.cell? ⟨b1, o1 + k, none⟩ = some (.string x) := by simpa using hc1 0 _ rfl
      have a2 : wr.cell? ⟨b2, o2 + k, none⟩ = some (.string x) := by simpa using hc2 0 _ rfl
      clear hc1 hc2 hx
      have hk0 : (0 : Int) ≤ (k : Int) := by omega
      have hkn : (k : Int) < (n : Int) := by omega
      go_wp2_with fail
      go_region_held3 (fun w' => (∀ kb ko, kb < wr.heap.size → w'.cell? ⟨kb, ko, none⟩ = wr.cell? ⟨kb, ko, none⟩) ∧ wr.heap.size ≤ w'.heap.size ∧ Below wr.heap.size wr w') (first | exact SB.mk hkB | exact SB.mk ((Below.refl _ _).drew) | (go_split_ands; refine SB.mk (Below.drew ?_); assumption) | (refine SB.mk ?_; go_grown; done) | (go_split_ands; refine SB.mk ?_; go_grown; done)) (fail)
      go_split_ands
      go_wp2_with fail
      go_roundw
      case rel => exact ⟨k + 1, by omega, by go_num, by go_grown⟩
      case measure => simp [intOf]; omega
    · go_wp2_with fail
      go_ret
      exact ⟨rfl, hW⟩
end Go.Proofs.YtgpmlpneffbbbaaDoor
