/-
  The directions of a stroke's segments: program and reference list the same.
-/
import Derived.Test.YtcglcfjonicjgaaStrokePlain
import Derived.Test.YtcglcfjonicjgaaValidS
import Derived.Test.YtcglcfjonicjgaaOwn
import Derived.Test.YtcglcfjonicjgaaDirectionOf
namespace Go.Proofs.Ytcglcfjonicjgaa
set_option linter.unusedSimpArgs false
set_option linter.unusedVariables false
open Go.RowKit
open Go.ChangeShapes Go.WideShapes Go.Deep Go.Joins

def stepD (p q : Pt) : List Int := if p.x = q.x ∧ p.y = q.y then [] else [dirI (q.x - p.x) (q.y - p.y)]
def dirsTo (l : List Pt) : Nat → List Int
  | 0 => []
  | k + 1 => dirsTo l k ++ stepD (l.getD k default) (l.getD (k + 1) default)
theorem dirsTo_len (l : List Pt) (k : Nat) : (dirsTo l k).length ≤ k := by
  induction k with
  | zero => exact Nat.le_refl _
  | succ k ih => unfold dirsTo stepD; rw [List.length_append]; split <;> simp <;> omega
theorem dirs_no {l : List Pt} {j : Nat} (h : j + 1 < l.length) (hx : l[j].x = l[j + 1].x) (hy : l[j].y = l[j + 1].y) : dirsTo l (j + 1) = dirsTo l j := by
  rw [dirsTo, getD_at h, getD_at (by omega : j < l.length), stepD, if_pos ⟨hx, hy⟩, List.append_nil]
theorem dirs_yes {l : List Pt} {j : Nat} (h : j + 1 < l.length) (hn : ¬ (l[j].x = l[j + 1].x ∧ l[j].y = l[j + 1].y)) : dirsTo l (j + 1) = dirsTo l j ++ [dirI (l[j + 1].x - l[j].x) (l[j + 1].y - l[j].y)] := by
  rw [dirsTo, getD_at h, getD_at (by omega : j < l.length), stepD, if_neg hn]
theorem dirI_bd (dx dy : Int) : 0 ≤ dirI dx dy ∧ dirI dx dy ≤ 7 := by
  unfold dirI dirA
  repeat' split
  all_goals omega
theorem dirsTo_bd (l : List Pt) (k : Nat) : ∀ d ∈ dirsTo l k, 0 ≤ d ∧ d ≤ 7 := by
  induction k with
  | zero => intro d hd; simp [dirsTo] at hd
  | succ k ih =>
    intro d hd
    unfold dirsTo stepD at hd
    rw [List.mem_append] at hd
    rcases hd with hd | hd
    · exact ih d hd
    · split at hd
      · simp at hd
      · simp at hd; subst hd; exact dirI_bd _ _

set_option maxHeartbeats 8000000 in
theorem directionsOf_any (A : Option Addr) (n c : Nat) (xs : List Pt) (w : World) (ha : Rd w A n 3 (rowOf ptC xs)) (la : xs.length = n) (hp : ptsB xs) (hn1 : 1 ≤ n) (hn60 : n ≤ 60) :
    Calls Try.prog 79 #[.agg #[.slice A n c]] w fun e w' => (∃ v, e = .returned v ∧ Own iC 2 1 w' (w.heap.size + 1) v (dirsTo xs (n - 1))) ∧ Below w.heap.size w w' := by
  have HA := Lib.hid ha
  have LA := Lib.hid la
  have HP := Lib.hid hp
  clear ha la hp
  go_enter Try.func79, Try.ntmps79
  go_wp2_with fail
  go_loopw [3, 4] (fun a i wr => ∃ j : Nat, j + 1 ≤ n ∧ i = .int .i64 ((j : Int) + 1) ∧ Own iC 2 1 wr (w.heap.size + 1) a (dirsTo xs j) ∧ Below (w.heap.size + 1) (w.alloc (.cells #[.slice A n c] 35)) wr) (fun _ i _ => n - (intOf i).toNat)
  case atStart => exact ⟨0, by omega, rfl, Own.nil _ _ _ _ _, by go_grown⟩
  case round =>
    obtain ⟨j, hj, rfl, hown, hB⟩ := hrel
    have hcr : wr.cell? ⟨w.heap.size, 0, none⟩ = some (.slice A n c) := (hB.cell (p := ⟨w.heap.size, 0, none⟩) (by simp)).trans (by go_simp)
    have hBs := hB.size
    simp only [World.size_alloc] at hBs
    have hwr : w.heap.size < wr.heap.size := by omega
    have hW : Below w.heap.size w wr := ((Below.refl w.heap.size w).alloc (Nat.le_refl _) _).trans (hB.mono (by omega))
    have HAr := Lib.hid (HA.out.below hW)
    by_cases hlt : j + 1 < n
    · skip
      have ka : j < xs.length := by have := LA.out; omega
      obtain ⟨b1, o1, rfl, l1, a1, a2, a3⟩ := HAr.out.pt LA.out ka
      have kc : j + 1 < xs.length := by have := LA.out; omega
      obtain ⟨_, _, e0, _, c1, c2, c3⟩ := HAr.out.pt LA.out kc
      cases e0
      have hwj : IntKind.i64.wrap (j : Int) = (j : Int) := IntWalk.i64_in _ (by omega)
      have hj0 : (0 : Int) ≤ (j : Int) := by omega
      have hj1 : (0 : Int) ≤ (j : Int) + 1 := by omega
      have hjn : (j : Int) < (n : Int) := by omega
      have hjn1 : (j : Int) + 1 < (n : Int) := by omega
      have hjt : ((j : Int) + 1).toNat = j + 1 := by omega
      have hp1 := ptB_true (HP.out j ka)
      have hp2 := ptB_true (HP.out (j + 1) kc)
      have hwx : IntKind.i64.wrap (xs[j + 1].x - xs[j].x) = xs[j + 1].x - xs[j].x := IntWalk.i64_in _ (by omega)
      have hwy : IntKind.i64.wrap (xs[j + 1].y - xs[j].y) = xs[j + 1].y - xs[j].y := IntWalk.i64_in _ (by omega)
      have HO := Lib.hid hown
      have hlen := dirsTo_len xs j
      clear hown
      go_upto_region 5 with fail
      go_cut [5, 6] (fun p q wx => ∃ bp bq : Nat, p = .pointer (some ⟨bp, 0, none⟩) ∧ q = .pointer (some ⟨bq, 0, none⟩) ∧ bp < wx.heap.size ∧ bq < wx.heap.size ∧ wx.cell? ⟨bp, 0, none⟩ = some (.int .i64 xs[j].x) ∧ wx.cell? ⟨bp, 1, none⟩ = some (.int .i64 xs[j].y) ∧
        wx.cell? ⟨bq, 0, none⟩ = some (.int .i64 xs[j + 1].x) ∧ wx.cell? ⟨bq, 1, none⟩ = some (.int .i64 xs[j + 1].y) ∧ Below wr.heap.size wr wx)
      case first =>
        go_region_held3 (fun w' => (∀ kb ko, kb < wr.heap.size → w'.cell? ⟨kb, ko, none⟩ = wr.cell? ⟨kb, ko, none⟩) ∧ wr.heap.size ≤ w'.heap.size ∧ Below wr.heap.size wr w') (first | exact SB.mk hkB | exact SB.mk ((Below.refl _ _).drew) | (go_split_ands; refine SB.mk (Below.drew ?_); assumption) | (refine SB.mk ?_; go_grown; done) | (go_split_ands; refine SB.mk ?_; go_grown; done)) (fail)
        all_goals
          go_split_ands
          go_wp2_with fail
          go_meet
          refine ⟨_, _, rfl, rfl, by go_size, by go_size, by go_simp, by go_simp, by go_simp, by go_simp, ?_⟩
          go_grown
      case rest =>
        obtain ⟨bp, bq, rfl, rfl, hbp, hbq, p0, p1, q0, q1, hC⟩ := hcut
        clear hcr a1 a2 a3 c1 c2 c3 hwj hjt
        have HOc := Lib.hid (HO.out.next hC)
        have hCs := hC.size
        obtain ⟨v1, hv1⟩ : ∃ v, (xs[j].x != xs[j + 1].x) = v := ⟨_, rfl⟩
        obtain ⟨v2, hv2⟩ : ∃ v, (xs[j].y != xs[j + 1].y) = v := ⟨_, rfl⟩
        by_cases hno : v1 = false ∧ v2 = false
        · obtain ⟨rfl, rfl⟩ := hno
          have HN : Hid (dirsTo xs (j + 1) = dirsTo xs j) := dirs_no kc (by simpa using hv1) (by simpa using hv2)
          go_wp2_with fail
          go_roundw
          case rel => exact ⟨j + 1, by omega, by go_num, by rw [HN.out]; exact HOc.out, hB.trans (hC.mono (by omega))⟩
          case measure => simp [intOf]; omega
        · have HN : Hid (dirsTo xs (j + 1) = dirsTo xs j ++ [dirI (xs[j + 1].x - xs[j].x) (xs[j + 1].y - xs[j].y)]) := dirs_yes kc (fun ⟨h1, h2⟩ => hno ⟨by rw [← hv1]; simp [h1], by rw [← hv2]; simp [h2]⟩)
          cases v1 <;> cases v2
          · exact absurd ⟨rfl, rfl⟩ hno
          all_goals
            clear hno
            go_wp2_with (first | (go_at_call 94; refine (directionOf_any _ _ _ (by omega) (by omega)).mono ?_; rintro e w' ⟨rfl, rfl⟩) | ((at_builtin; refine list_push elem_int (by rfl) (.tmp 37) (.tmp 49) 57 (by rfl) Try.underlying57 (w.heap.size + 1) _ (dirsTo xs j) (dirI (xs[j + 1].x - xs[j].x) (xs[j + 1].y - xs[j].y)) (by rfl) (HOc.out.alloc _) _ rfl wc.heap.size 1 (by rfl) (fun i u hu => by rw [(Bk.new wc #[.int .i64 (dirI (xs[j + 1].x - xs[j].x) (xs[j + 1].y - xs[j].y))] 2).cell i]; simpa [iC] using hu) (by unfold maxLen; omega) (by omega) (by simp only [World.size_alloc]; omega) ?_; intro g5 cap5 w5 hown5 hgrow5 hat5 hlt5 hkeep5)))
            have hG : Below (w.heap.size + 1) (w.alloc (.cells #[.slice (some ⟨b1, o1, none⟩) n c] 35)) w5 := ((hB.trans (hC.mono (by omega))).alloc (by omega) _).grown hgrow5 (by simp only [World.size_alloc]; omega) (fun k hk => (HOc.out.lt k hk).1)
            go_roundw
            case rel => exact ⟨j + 1, by omega, by go_num, by rw [HN.out]; exact hown5, hG⟩
            case measure => simp [intOf]; omega
    · go_wp2_with fail
      go_ret
      obtain rfl : n = j + 1 := by omega
      exact ⟨⟨_, rfl, by rw [Nat.add_sub_cancel]; exact hown⟩, hW⟩


set_option maxHeartbeats 8000000 in
theorem l05Directions_any (b : Nat) (A : Option Addr) (n c : Nat) (xs : List Pt) (w : World) (hcs0 : w.cell? ⟨b, 0, none⟩ = some (.slice A n c)) (ha : Rd w A n 3 (rowOf ptC xs)) (la : xs.length = n) (hp : ptsB xs) (hn1 : 1 ≤ n) (hn60 : n ≤ 60) :
    Calls Try.prog 77 #[.pointer (some ⟨b, 0, none⟩)] w fun e w' => (∃ v, e = .returned v ∧ Own iC 2 1 w' w.heap.size v (dirsTo xs (n - 1))) ∧ Below w.heap.size w w' := by
  have hb0 : b < w.heap.size := block_lt_of_cell hcs0
  have HA := Lib.hid ha
  have LA := Lib.hid la
  have HP := Lib.hid hp
  clear ha la hp
  go_enter Try.func77, Try.ntmps77
  go_wp2_with fail
  go_loopw [3, 4] (fun a i wr => ∃ j : Nat, j + 1 ≤ n ∧ i = .int .i64 ((j : Int) + 1) ∧ Own iC 2 1 wr w.heap.size a (dirsTo xs j) ∧ Below w.heap.size w wr) (fun _ i _ => n - (intOf i).toNat)
  case atStart => exact ⟨0, by omega, rfl, Own.of_bk (l := []) (Bk.new w #[] 2) iC_len (by decide) (Nat.le_refl _), by go_grown⟩
  case round =>
    obtain ⟨j, hj, rfl, hown, hB⟩ := hrel
    have hcr : wr.cell? ⟨b, 0, none⟩ = some (.slice A n c) := (hB.cell (p := ⟨b, 0, none⟩) hb0).trans hcs0
    have hBs := hB.size
    have hwr : b < wr.heap.size := by omega
    have HAr := Lib.hid (HA.out.below hB)
    by_cases hlt : j + 1 < n
    · skip
      have ka : j < xs.length := by have := LA.out; omega
      obtain ⟨b1, o1, rfl, l1, a1, a2, a3⟩ := HAr.out.pt LA.out ka
      have kc : j + 1 < xs.length := by have := LA.out; omega
      obtain ⟨_, _, e0, _, c1, c2, c3⟩ := HAr.out.pt LA.out kc
      cases e0
      have hwj : IntKind.i64.wrap (j : Int) = (j : Int) := IntWalk.i64_in _ (by omega)
      have hj0 : (0 : Int) ≤ (j : Int) := by omega
      have hj1 : (0 : Int) ≤ (j : Int) + 1 := by omega
      have hjn : (j : Int) < (n : Int) := by omega
      have hjn1 : (j : Int) + 1 < (n : Int) := by omega
      have hjt : ((j : Int) + 1).toNat = j + 1 := by omega
      have hp1 := ptB_true (HP.out j ka)
      have hp2 := ptB_true (HP.out (j + 1) kc)
      have hwx : IntKind.i64.wrap (xs[j + 1].x - xs[j].x) = xs[j + 1].x - xs[j].x := IntWalk.i64_in _ (by omega)
      have hwy : IntKind.i64.wrap (xs[j + 1].y - xs[j].y) = xs[j + 1].y - xs[j].y := IntWalk.i64_in _ (by omega)
      have HO := Lib.hid hown
      have hlen := dirsTo_len xs j
      clear hown
      go_upto_region 5 with fail
      go_cut [5] (fun p wx => p = .int .i64 (xs[j + 1].x - xs[j].x) ∧ Below wr.heap.size wr wx)
      case first =>
        go_region_held3 (fun w' => (∀ kb ko, kb < wr.heap.size → w'.cell? ⟨kb, ko, none⟩ = wr.cell? ⟨kb, ko, none⟩) ∧ wr.heap.size ≤ w'.heap.size ∧ Below wr.heap.size wr w') (first | exact SB.mk hkB | exact SB.mk ((Below.refl _ _).drew) | (go_split_ands; refine SB.mk (Below.drew ?_); assumption) | (refine SB.mk ?_; go_grown; done) | (go_split_ands; refine SB.mk ?_; go_grown; done)) (fail)
        all_goals
          go_split_ands
          go_wp2_with fail
          go_meet
          exact ⟨by simp only [hwx], by go_grown⟩
      case rest =>
        obtain ⟨rfl, hC⟩ := hcut
        obtain ⟨hcc, hfc⟩ := bcell hC
        have hCs := hC.size
        have l1c : b1 < wc.heap.size := by omega
        have hbc : b < wc.heap.size := by omega
        have hccr := (hcc _ _ hwr).trans hcr
        have r2 := (hcc _ _ l1).trans a2
        have s2 := (hcc _ _ l1).trans c2
        clear hcc hfc hcr a1 a2 a3 c1 c2 c3
        go_upto_region 6 with fail
        go_cut [6] (fun p wx => p = .int .i64 (xs[j + 1].y - xs[j].y) ∧ Below wc.heap.size wc wx)
        case first =>
          go_region_held3 (fun w' => (∀ kb ko, kb < wc.heap.size → w'.cell? ⟨kb, ko, none⟩ = wc.cell? ⟨kb, ko, none⟩) ∧ wc.heap.size ≤ w'.heap.size ∧ Below wc.heap.size wc w') (first | exact SB.mk hkB | exact SB.mk ((Below.refl _ _).drew) | (go_split_ands; refine SB.mk (Below.drew ?_); assumption) | (refine SB.mk ?_; go_grown; done) | (go_split_ands; refine SB.mk ?_; go_grown; done)) (fail)
          all_goals
            go_split_ands
            go_wp2_with fail
            go_meet
            exact ⟨by simp only [hwy], by go_grown⟩
        case rest =>
          obtain ⟨rfl, hD⟩ := hcut
          have hE := Below.next hC hD
          have HOc := Lib.hid (HO.out.next hE)
          have hEs := hE.size
          clear hccr r2 s2 hwj hjt hwx hwy hC hD
          rename World => wd
          obtain ⟨v1, hv1⟩ : ∃ v, ((xs[j + 1].x - xs[j].x) != 0) = v := ⟨_, rfl⟩
          obtain ⟨v2, hv2⟩ : ∃ v, ((xs[j + 1].y - xs[j].y) != 0) = v := ⟨_, rfl⟩
          by_cases hno : v1 = false ∧ v2 = false
          · obtain ⟨rfl, rfl⟩ := hno
            have HN : Hid (dirsTo xs (j + 1) = dirsTo xs j) := dirs_no kc (by have : xs[j + 1].x - xs[j].x = 0 := by simpa using hv1
                                                                              omega) (by have : xs[j + 1].y - xs[j].y = 0 := by simpa using hv2
                                                                                         omega)
            go_wp2_with fail
            go_roundw
            case rel => exact ⟨j + 1, by omega, by go_num, by rw [HN.out]; exact HOc.out, Below.next hB hE⟩
            case measure => simp [intOf]; omega
          · have hnn : xs[j + 1].x - xs[j].x ≠ 0 ∨ xs[j + 1].y - xs[j].y ≠ 0 := by
              rcases Decidable.em (xs[j + 1].x - xs[j].x = 0) with h1 | h1
              · rcases Decidable.em (xs[j + 1].y - xs[j].y = 0) with h2 | h2
                · exact absurd ⟨by rw [← hv1, h1]; rfl, by rw [← hv2, h2]; rfl⟩ hno
                · exact .inr h2
              · exact .inl h1
            have HN : Hid (dirsTo xs (j + 1) = dirsTo xs j ++ [dirI (xs[j + 1].x - xs[j].x) (xs[j + 1].y - xs[j].y)]) := dirs_yes kc (fun ⟨h1, h2⟩ => by omega)
            have HNN := Lib.hid hnn
            clear hnn
            cases v1 <;> cases v2
            · exact absurd ⟨rfl, rfl⟩ hno
            all_goals
              clear hno
              go_wp2_with (first | (go_at_call 93; refine (l05Sector_any _ _ _ (by omega) (by omega) HNN.out).mono ?_; rintro e w' ⟨rfl, rfl⟩) | ((at_builtin; refine list_push elem_int (by rfl) (.tmp 59) (.tmp 63) 57 (by rfl) Try.underlying57 w.heap.size _ (dirsTo xs j) (dirI (xs[j + 1].x - xs[j].x) (xs[j + 1].y - xs[j].y)) (by rfl) (HOc.out.alloc _) _ rfl wd.heap.size 1 (by rfl) (fun i u hu => by rw [(Bk.new wd #[.int .i64 (dirI (xs[j + 1].x - xs[j].x) (xs[j + 1].y - xs[j].y))] 2).cell i]; simpa [iC] using hu) (by unfold maxLen; omega) (by omega) (by simp only [World.size_alloc]; omega) ?_; intro g5 cap5 w5 hown5 hgrow5 hat5 hlt5 hkeep5)))
              have hG : Below w.heap.size w w5 := ((Below.next hB hE).alloc (by omega) _).grown hgrow5 (by simp only [World.size_alloc]; omega) (fun k hk => (HOc.out.lt k hk).1)
              go_roundw
              case rel => exact ⟨j + 1, by omega, by go_num, by rw [HN.out]; exact hown5, hG⟩
              case measure => simp [intOf]; omega
    · go_wp2_with fail
      go_ret
      obtain rfl : n = j + 1 := by omega
      exact ⟨⟨_, rfl, by rw [Nat.add_sub_cancel]; exact hown⟩, hB⟩
end Go.Proofs.Ytcglcfjonicjgaa
