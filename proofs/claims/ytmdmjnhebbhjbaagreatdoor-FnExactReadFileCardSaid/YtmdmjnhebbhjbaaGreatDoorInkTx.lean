/-
  The text of an ink: program and reference write the same.
-/
import Derived.Test.YtmdmjnhebbhjbaaGreatDoorCommas
namespace Go.Proofs.YtmdmjnhebbhjbaaGreatDoor
set_option linter.unusedSimpArgs false
set_option linter.unusedVariables false
set_option maxRecDepth 20000
open Go.RowKit
open Go.ChangeShapes Go.WideShapes Go.Deep Go.Joins

def txR (P : List (List Pt)) : List UInt8 := if inkB P = true then inkTx P else []
theorem ptTx_com (p : Pt) : comL [p.x, p.y, p.t] = ptTx p := rfl
theorem ptB_num {p : Pt} (h : ptB p = true) : nums [p.x, p.y, p.t] := by
  obtain ⟨h1, h2, h3⟩ := ptB_true h
  intro x hx
  simp only [List.mem_cons, List.not_mem_nil, or_false] at hx
  rcases hx with rfl | rfl | rfl <;> omega
theorem ptTx_le {p : Pt} (h : ptB p = true) : (ptTx p).length ≤ 60 := by
  have := comL_le (ptB_num h)
  rw [ptTx_com] at this
  exact this
theorem strB_pts {l : List Pt} (h : strB l = true) : ∀ p ∈ l, ptB p = true := fun p hp => by
  obtain ⟨_, _, h3, _⟩ := strB_true h
  obtain ⟨j, hj, rfl⟩ := List.mem_iff_getElem.1 hp
  exact h3 j hj
theorem lnTx_le {l : List Pt} (h : ∀ p ∈ l, ptB p = true) : (lnTx l).length ≤ 61 * l.length := by
  have h1 := join_le (c := 32) (M := 60) (ps := l.map ptTx) fun q hq => by
    obtain ⟨p, hp, rfl⟩ := List.mem_map.1 hq
    exact ptTx_le (h p hp)
  rw [List.length_map] at h1
  exact h1
theorem inkTx_next {P : List (List Pt)} {k : Nat} (h : k < P.length) : inkTx (P.take (k + 1)) = inkTx (P.take k) ++ (lnTx P[k] ++ [10]) := by
  unfold inkTx
  rw [List.take_succ_eq_append_getElem h, List.map_append, List.map_append, List.flatten_append]
  simp only [List.map_cons, List.map_nil, List.flatten_cons, List.flatten_nil, List.append_nil]
theorem inkTx_le {P : List (List Pt)} (h : inkB P = true) : ∀ k, k ≤ P.length → (inkTx (P.take k)).length ≤ 3661 * k
  | 0, _ => by simp [inkTx]
  | k + 1, hk => by
    have h1 := inkTx_le h k (by omega)
    have h2 := inkB_str h _ (List.getElem_mem (show k < P.length by omega))
    have h3 := lnTx_le (strB_pts h2)
    obtain ⟨_, h4, _, _⟩ := strB_true h2
    rw [inkTx_next (by omega)]
    simp only [List.length_append, List.length_cons, List.length_nil]
    omega
def wordsP (l : List Pt) (k : Nat) : List ByteArray := (l.take k).map fun x => bs (ptTx x)
theorem wordsP_len {l : List Pt} {k : Nat} (h : k ≤ l.length) : (wordsP l k).length = k := by simp [wordsP, h]
theorem wordsP_next {l : List Pt} {k : Nat} (h : k < l.length) : wordsP l (k + 1) = wordsP l k ++ [bs (ptTx l[k])] := by
  unfold wordsP
  rw [List.take_succ_eq_append_getElem h, List.map_append]
  rfl
theorem wordsP_all {l : List Pt} {k : Nat} (h : l.length ≤ k) : (wordsP l k).map (·.data.toList) = l.map ptTx := by
  unfold wordsP
  rw [List.take_of_length_le h, List.map_map]
  rfl
/-- the first points of a line -/
def lnTo (l : List Pt) (j : Nat) : List UInt8 := jnB 32 ((l.take j).map ptTx)
theorem lnTo_zero (l : List Pt) : lnTo l 0 = [] := by unfold lnTo; rw [List.take_zero]; exact Lib.join_nil _
theorem lnTo_all {l : List Pt} {j : Nat} (h : l.length ≤ j) : lnTo l j = lnTx l := by unfold lnTo lnTx; rw [List.take_of_length_le h]
theorem jnB_snoc (c : UInt8) (q : List UInt8) : ∀ (ps : List (List UInt8)), ps ≠ [] → jnB c (ps ++ [q]) = jnB c ps ++ (c :: q)
  | [], h => absurd rfl h
  | [p], _ => by rw [List.singleton_append, jnB_cons, jnB_one, jnB_one]
  | p :: r :: s, _ => by
    have ih := jnB_snoc c q (r :: s) (by simp)
    rw [List.cons_append, List.cons_append, jnB_cons]
    rw [List.cons_append] at ih
    rw [ih, jnB_cons]
    simp
theorem lnTo_next0 {l : List Pt} (h : 0 < l.length) : lnTo l 1 = lnTo l 0 ++ ptTx l[0] := by
  unfold lnTo
  rw [List.take_succ_eq_append_getElem h, List.take_zero]
  simp only [List.nil_append, List.map_cons, List.map_nil]
  rw [jnB_one]
  show _ = Lib.join [] _ ++ _
  rw [Lib.join_nil, List.nil_append]
theorem lnTo_next {l : List Pt} {j : Nat} (h : j < l.length) (hj : 0 < j) : lnTo l (j + 1) = lnTo l j ++ (32 :: ptTx l[j]) := by
  unfold lnTo
  rw [List.take_succ_eq_append_getElem h, List.map_append, List.map_singleton, jnB_snoc _ _ _ (by
    intro e
    have h1 := congrArg List.length e
    rw [List.length_map, List.length_take, Nat.min_eq_left (by omega)] at h1
    simp at h1
    omega)]
theorem lnTo_le {l : List Pt} (h : ∀ p ∈ l, ptB p = true) (j : Nat) : (lnTo l j).length ≤ 61 * l.length := by
  have h1 := join_le (c := 32) (M := 60) (ps := (l.take j).map ptTx) fun q hq => by
    obtain ⟨p, hp, rfl⟩ := List.mem_map.1 hq
    exact ptTx_le (h p (List.mem_of_mem_take hp))
  rw [List.length_map, List.length_take] at h1
  unfold lnTo
  have h2 : min j l.length ≤ l.length := Nat.min_le_right _ _
  have h3 := Nat.mul_le_mul_left 61 h2
  omega
set_option maxHeartbeats 8000000 in
theorem iInkText_any (A : Option Addr) (n c : Nat) (S : List St) (P : List (List Pt)) (w : World) (h : InkRd w A n S) (hP : ptsOf S = P) (hs : ∀ s ∈ S, s.l.length ≤ 1048576) (hn : n ≤ 1048576) (ht : Tab10 w) :
    Calls Tryz.prog 36 #[.agg #[.slice A n c]] w fun e w' => e = .returned (.string (bs (txR P))) ∧ Below w.heap.size w w' := by
  have HA := Lib.hid (h.alloc (.cells #[.slice A n c] 34))
  have H0 := Lib.hid h
  have HLN := Lib.hid h.len
  have HT := Lib.hid ht
  have HK : Hid (Bk (w.alloc (.cells #[.slice A n c] 34)) w.heap.size 34 #[.slice A n c]) := Bk.new w _ _
  have hc := validInk_any A n c S _ HA.out hs hn
  subst hP
  clear h ht
  cases hv : inkB (ptsOf S)
  · rw [hv] at hc
    have HV : Hid (txR (ptsOf S) = []) := by unfold txR; rw [hv]; rfl
    clear hv
    go_enter Tryz.func36, Tryz.ntmps36
    go_wp2_with fail
    refine hc.mono ?_
    rintro e w2 ⟨rfl, hb2⟩
    have hB : Below w.heap.size w w2 := Below.next (by go_grown) hb2
    clear hb2 hc
    go_wp2_with fail
    go_ret
    exact ⟨by rw [HV.out]; rfl, hB⟩
  · rw [hv] at hc
    have HV : Hid (txR (ptsOf S) = inkTx (ptsOf S)) := by unfold txR; rw [hv]; rfl
    have HI := Lib.hid hv
    clear hv
    go_enter Tryz.func36, Tryz.ntmps36
    go_wp2_with fail
    refine hc.mono ?_
    rintro e w2 ⟨rfl, hb2⟩
    have hT2 : Below w.heap.size w w2 := Below.next (by go_grown) hb2
    have hK2 := HK.out.next hb2
    obtain ⟨q0, f0⟩ := bk1 hK2
    have ql := hK2.lt
    clear hb2 hc hK2
    have hbld := Lib.hid (Bld.fresh w2 (w2.heap.size + 1))
    go_wp2_with fail
    clear q0 f0
    go_loopw [15] (fun i wr => ∃ k : Nat, k ≤ n ∧ i = .int .i64 (k : Int) ∧ Hid (Bld wr w2.heap.size (w2.heap.size + 1) (inkTx ((ptsOf S).take k))) ∧ Apart w2.heap.size (w2.heap.size + 1) (w2.alloc (.cells #[.pointer none, .slice none 0 0] 103)) wr) (fun i _ => n - (intOf i).toNat)
    case atStart => exact ⟨0, Nat.zero_le _, rfl, hbld.out, Apart.refl _ _ _⟩
    case round =>
      obtain ⟨wo, rfl⟩ : ∃ wo, wo = wr := ⟨wr, rfl⟩
      obtain ⟨k, hk, rfl, hbk, hA⟩ := hrel
      have hAs := hA.size
      simp only [World.size_alloc] at hAs
      have hB : Below w.heap.size w wo := Below.next hT2 (((Below.refl _ _).alloc (Nat.le_refl _) _).trans (hA.below (Nat.le_refl _) (by omega)))
      by_cases hlt : k < n
      · have ka : k < S.length := by have := HLN.out; omega
        have ka2 : k < (ptsOf S).length := by rw [ptsOf_len]; exact ka
        obtain ⟨b1, o1, rfl, l1, c1, p1⟩ := (H0.out.below hB).at ka
        have hsl := hs _ (List.getElem_mem ka)
        have hstr := inkB_str HI.out _ (List.getElem_mem ka2)
        rw [ptsOf_get S k ka2 ka] at hstr
        have hpts := strB_pts hstr
        obtain ⟨_, h60, _, _⟩ := strB_true hstr
        have hnx : Hid (inkTx ((ptsOf S).take (k + 1)) = inkTx ((ptsOf S).take k) ++ (lnTx S[k].l ++ [10])) := by rw [Hid, inkTx_next ka2, ptsOf_get S k ka2 ka]
        have hle : Hid ((inkTx ((ptsOf S).take k)).length ≤ 3661 * k) := inkTx_le HI.out k (by omega)
        have hk16 : k ≤ 16 := by have := inkB_le HI.out; omega
        obtain ⟨As, cs, xs, hr⟩ : ∃ As cs xs, S[k] = ⟨As, cs, xs⟩ := ⟨S[k].A, S[k].c, S[k].l, rfl⟩
        rw [hr] at c1 p1 hpts h60 hnx
        simp only [] at c1 p1 hpts h60 hnx
        obtain ⟨q, hq⟩ : ∃ q, xs.length = q := ⟨_, rfl⟩
        rw [hq] at c1 p1 h60
        have LQ := Lib.hid hq
        have HP := Lib.hid p1
        have HPT := Lib.hid hpts
        have hk0 : (0 : Int) ≤ (k : Int) := by omega
        have hkn : (k : Int) < (n : Int) := by omega
        clear hr p1 hpts hq hstr ka2
        go_wp2_with fail
        go_loopw [6, 22] (fun v i wr => ∃ j : Nat, j ≤ q ∧ i = .int .i64 (j : Int) ∧ Own sC 9 1 wr (wo.heap.size + 1) v (wordsP xs j) ∧ Below (wo.heap.size + 1) (wo.alloc (.cells #[.slice As q cs] 57)) wr) (fun _ i _ => q - (intOf i).toNat)
        case atStart => exact ⟨0, Nat.zero_le _, rfl, Own.nil _ _ _ _ _, Below.refl _ _⟩
        case round =>
          obtain ⟨j, hj, rfl, hown, hBr⟩ := hrel
          have hBrs := hBr.size
          simp only [World.size_alloc] at hBrs
          have HO := Lib.hid hown
          have HV2 : Hid (∀ b, u6.ownBlock = some b → wo.heap.size + 1 ≤ b) := fun b hb => (hown.lt b hb).1
          clear hown
          have hBo : Below wo.heap.size wo wr := ((Below.refl _ _).alloc (Nat.le_refl _) _).trans (hBr.mono (by omega))
          have hBw : Below w.heap.size w wr := Below.next hB hBo
          by_cases hjlt : j < q
          · have kj : j < xs.length := by rw [LQ.out]; exact hjlt
            obtain ⟨b3, o3, rfl, l3, a1, a2, a3⟩ := (HP.out.below hBo).pt LQ.out kj
            have hpt := HPT.out _ (List.getElem_mem kj)
            have hnum := Lib.hid (ptB_num hpt)
            have hnj : Hid (wordsP xs (j + 1) = wordsP xs j ++ [bs (ptTx xs[j])]) := wordsP_next kj
            have hwl : Hid ((wordsP xs j).length = j) := wordsP_len (by omega)
            have hj0 : (0 : Int) ≤ (j : Int) := by omega
            have hjn : (j : Int) < (q : Int) := by omega
            have hRI : Hid (Rd ((wr.alloc (.cells #[.int .i64 xs[j].x, .int .i64 xs[j].y, .int .i64 xs[j].t] 61)).alloc (.cells #[.int .i64 xs[j].x, .int .i64 xs[j].y, .int .i64 xs[j].t] 2)) (some ⟨wr.heap.size + 1, 0, none⟩) 3 1 (rowOf iC [xs[j].x, xs[j].y, xs[j].t])) := (Bk.new1 wr _ #[.int .i64 xs[j].x, .int .i64 xs[j].y, .int .i64 xs[j].t] 2).rd (n := 3) (size := 1) rfl
            go_wp2_with fail
            refine (commasOf_any (some ⟨wr.heap.size + 1, 0, none⟩) 3 3 [xs[j].x, xs[j].y, xs[j].t] _ hRI.out rfl (by omega) hnum.out (HT.out.below (by have h9 := hBw; go_grown))).mono ?_
            rintro e w4 ⟨rfl, hb4⟩
            have hB4 : Below wr.heap.size wr w4 := Below.next (by go_grown) hb4
            have hz4 := hB4.size
            have HO4 := Lib.hid (HO.out.next hB4)
            have hBr4 := hBr.trans (hB4.mono (show wo.heap.size + 1 ≤ wr.heap.size by omega))
            clear hb4
            rw [ptTx_com]
            go_wp2_with ((at_builtin; refine list_push elem_str (by rfl) (.tmp 26) (.tmp 35) 41 (by rfl) Tryz.underlying41 (wo.heap.size + 1) _ (wordsP xs j) (bs (ptTx xs[j])) (by rfl) (HO4.out.alloc _) j hwl.out w4.heap.size 1 (by rfl) (fun i u hu => ((Bk.new w4 #[.string (bs (ptTx xs[j]))] 9).cell i).trans (by simpa [sC] using hu)) (by unfold maxLen; omega) (by omega) (by simp only [World.size_alloc]; omega) ?_; intro g5 cap5 w5 hown5 hgrow5 hat5 hlt5 hkeep5; have HO5 := Lib.hid hown5; have HG5 := Lib.hid hgrow5; clear hown5 hgrow5 hat5 hkeep5))
            go_roundw
            case rel => exact ⟨j + 1, by omega, by go_num, by rw [hnj.out]; exact HO5.out, (hBr4.alloc (by omega) _).grown HG5.out (by simp only [World.size_alloc]; omega) HV2.out⟩
            case measure => (simp [intOf]; try omega)
          · obtain rfl : j = q := by omega
            have hwl : Hid ((wordsP xs j).length = j) := wordsP_len (by rw [LQ.out]; exact Nat.le_refl _)
            have hall : Hid ((wordsP xs j).map (·.data.toList) = xs.map ptTx) := wordsP_all (by rw [LQ.out]; exact Nat.le_refl _)
            have hlle := lnTx_le HPT.out
            rw [LQ.out] at hlle
            obtain ⟨A2, c2, hv, _, _, _⟩ := HO.out.rd
            rw [hwl.out] at hv
            subst hv
            have hbk3 := Lib.hid (hbk.out.keep hBo (by omega) (Nat.le_refl _))
            go_wp2_with fail
            have hjn := join_own (d := 32) wr HO.out hwl.out (by rw [hall.out]; show (lnTx xs).length ≤ _; omega)
            rw [hall.out, show jnB 32 (xs.map ptTx) = lnTx xs from rfl] at hjn
            refine hjn.mono ?_
            rintro e w4 ⟨rfl, hb4⟩
            clear hjn
            have hz4 := hb4.size
            have hbk4 := Lib.hid (hbk3.out.keep hb4 (by omega) (Nat.le_refl _))
            have hsz1 : (bs (lnTx xs)).size ≤ 3660 := by rw [bs_size]; omega
            have hsz2 : (bs [10]).size = 1 := rfl
            have hA4 : Apart w2.heap.size (w2.heap.size + 1) wo w4 := (Apart.of_below (hBo.mono (by omega))).trans (Apart.of_below (hb4.mono (by omega)))
            have HLE := hle.out
            clear hb4
            go_wp2_with fail
            refine (writeString_any w2.heap.size (w2.heap.size + 1) _ _ _ hbk4.out (by omega) (by omega) ?_).mono ?_
            · rw [ByteArray.size_append]
              have : (ByteArray.mk #[10]).size = 1 := rfl
              omega
            · rintro e w5 ⟨rfl, hbk5, hA5⟩
              have HB5 : Hid (Bld w5 w2.heap.size (w2.heap.size + 1) (inkTx ((ptsOf S).take (k + 1)))) := by
                rw [Hid, hnx.out]
                have e1 : (bs (lnTx xs) ++ ⟨#[10]⟩ : ByteArray).data.toList = lnTx xs ++ [10] := by
                  rw [show (⟨#[10]⟩ : ByteArray) = bs [10] from rfl, bs_append, bs_list]
                rw [e1] at hbk5
                exact hbk5
              clear hbk5
              go_wp2_with fail
              go_roundw
              case rel => exact ⟨k + 1, by omega, by go_num, HB5.out, (hA.trans hA4).trans hA5⟩
              case measure => (simp [intOf]; try omega)
      · obtain rfl : k = n := by omega
        have hall : Hid (inkTx ((ptsOf S).take k) = inkTx (ptsOf S)) := by rw [Hid, List.take_of_length_le (by rw [ptsOf_len, HLN.out]; exact Nat.le_refl _)]
        have hle := inkTx_le HI.out k (by rw [ptsOf_len, HLN.out]; exact Nat.le_refl _)
        have hk16 : k ≤ 16 := by have h1 := inkB_le HI.out; rw [ptsOf_len, HLN.out] at h1; exact h1
        have HW2 : w.heap.size ≤ w2.heap.size := hT2.size
        have hbk2 := hbk.out
        rw [hall.out] at hbk2
        have HBK := Lib.hid hbk2
        clear hbk2
        go_wp2_with fail
        refine (Tryz.Builder_String_any w2.heap.size w2.heap.size _ _ (HBK.out.is (Nat.le_refl _) (by omega)) (by omega)).mono ?_
        rintro e w3 ⟨rfl, hb3⟩
        have hB3 : Below w.heap.size w w3 := hB.trans (hb3.mono HW2)
        clear hb3
        go_wp2_with fail
        go_ret
        exact ⟨by rw [HV.out]; rfl, hB3⟩
theorem l01Dec_bs (n : Int) (h : -1000000000000000000 < n ∧ n < 1000000000000000000) (w : World) : Calls Tryz.prog 149 #[.int .i64 n] w fun e w' => e = .returned (.string (bs (Lib.itoa n))) ∧ Below w.heap.size w w' := l01Dec_any n (by omega) (by omega) w
end Go.Proofs.YtmdmjnhebbhjbaaGreatDoor
